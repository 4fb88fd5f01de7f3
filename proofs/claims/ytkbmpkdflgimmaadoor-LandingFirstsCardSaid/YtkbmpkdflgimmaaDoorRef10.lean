/- The contract of the reference's sinks; plain laws for its lands. -/
import Derived.Test.YtkbmpkdflgimmaaDoorRef9
namespace Go.Proofs.YtkbmpkdflgimmaaDoor
open Go.RowKit Go.Shelf

def inchR (B : Book) (ld : Int) : Int := (ld + B.sink - 1) / B.sink
theorem inchR_spec {B : Book} {ld : Int} (hk : 1 ≤ B.sink) : ld ≤ B.sink * inchR B ld ∧ B.sink * inchR B ld ≤ ld + B.sink - 1 := by
  unfold inchR
  have h1 := Int.mul_ediv_add_emod (ld + B.sink - 1) B.sink
  have h2 := Int.emod_lt_of_pos (ld + B.sink - 1) (show 0 < B.sink by omega)
  have h3 := Int.emod_nonneg (ld + B.sink - 1) (show B.sink ≠ 0 by omega)
  constructor <;> omega
theorem inchR_lt {B : Book} {ld n : Int} (hk : 1 ≤ B.sink) (h : B.sink * n < ld) : n < inchR B ld := by
  have h1 := (inchR_spec (ld := ld) hk).1
  exact Int.lt_of_mul_lt_mul_left (show B.sink * n < B.sink * inchR B ld by omega) (by omega)
theorem inchR_le {B : Book} {ld n : Int} (hk : 1 ≤ B.sink) (h : ld ≤ B.sink * n) : inchR B ld ≤ n := by
  have h1 := (inchR_spec (ld := ld) hk).2
  have h2 : B.sink * (n + 1) = B.sink * n + B.sink := by rw [Int.mul_add, Int.mul_one]
  have h3 : inchR B ld < n + 1 := Int.lt_of_mul_lt_mul_left (show B.sink * inchR B ld < B.sink * (n + 1) by omega) (by omega)
  omega
theorem inchR_range {B : Book} {ld : Int} (hk : 1 ≤ B.sink) (hk2 : B.sink ≤ 100) (l0 : 0 ≤ ld) (l1 : ld ≤ 1000) : 0 ≤ inchR B ld ∧ inchR B ld ≤ 2000 := by
  unfold inchR
  exact ⟨Int.ediv_nonneg (by omega) (by omega), Int.le_trans (Int.ediv_le_self _ (by omega)) (by omega)⟩
def SnR (w : World) (B : Book) (ta : Option Addr) (tc : Nat) (sa : Option Addr) (sc : Nat) (ld : Int) (a : Act) (W : World) : Prop := ∃ n : Nat, (n : Int) ≤ inchR B ld ∧ a.tmps.size = 15 ∧ a.defers = [] ∧ slotOf a 1 = i64 ld ∧ slotOf a 2 = .pointer (some ⟨w.heap.size, 0, none⟩) ∧ slotOf a 5 = i64 n ∧ W = w.alloc (.cells (bookCells B ta tc sa sc) 30)
def snM (B : Book) (ld : Int) (a : Act) : Nat := (inchR B ld + 1 - intOf (slotOf a 5)).toNat
set_option maxRecDepth 100000 in
theorem sinks_any (B : Book) (ta : Option Addr) (tc : Nat) (sa : Option Addr) (sc : Nat) (ld : Int) (w : World) (hk : 1 ≤ B.sink) (hk2 : B.sink ≤ 100) (l0 : 0 ≤ ld) (l1 : ld ≤ 1000) :
    Calls Tryd.prog 104 #[bookVal B ta tc sa sc, i64 ld] w fun e w' => e = .returned (i64 (inchR B ld)) ∧ Below w.heap.size w w' := by
  have hx0 : (w.alloc (.cells (bookCells B ta tc sa sc) 30)).heap[w.heap.size]? = some (.cells (bookCells B ta tc sa sc) 30 (0, 0)) := heap_alloc_new w _
  have hxc := cells_of hx0
  have hr := inchR_range hk hk2 l0 l1
  go_enter Tryd.func104, Tryd.ntmps104
  go_wp2_with fail
  refine wp_loop (SnR w B ta tc sa sc ld) (fun act _ => snM B ld act) ?_ ?_
  · exact ⟨0, by simpa using hr.1, rfl, rfl, rfl, rfl, rfl, rfl⟩
  · rintro act W9 ⟨n, hn, hsz, hdf, s1, s2, s5, rfl⟩
    rw [act_eta act 15 hsz hdf]
    simp only [show List.range 15 = [0, 1, 2, 3, 4, 5, 6, 7, 8, 9, 10, 11, 12, 13, 14] from rfl, List.map_cons, List.map_nil, s1, s2, s5]
    have hsp := inchR_spec (ld := ld) hk
    have hmn : B.sink * (n : Int) ≤ B.sink * inchR B ld := Int.mul_le_mul_of_nonneg_left hn (by omega)
    have hm0 : 0 ≤ B.sink * (n : Int) := Int.mul_nonneg (by omega) (by omega)
    have hw : IntKind.i64.wrap (B.sink * (n : Int)) = B.sink * (n : Int) := wrap_fit (by omega) (by omega)
    cases hc : decide (B.sink * (n : Int) < ld)
    · have hlt : ¬ B.sink * (n : Int) < ld := of_decide_eq_false hc
      have hfin : Hid (inchR B ld = n) := Lib.hid (by have := inchR_le (ld := ld) (n := n) hk (by omega); omega)
      go_wp2_with fail
      go_ret
      exact ⟨by rw [hfin.out]; rfl, (Below.refl _ _).alloc (Nat.le_refl _) _⟩
    · have hlt : B.sink * (n : Int) < ld := of_decide_eq_true hc
      have hnx := inchR_lt hk hlt
      go_wp2_with fail
      refine ⟨⟨n + 1, by omega, rfl, rfl, rfl, rfl, congrArg (Value.int .i64) (Int.natCast_succ n).symm, rfl⟩, ?_⟩
      show (inchR B ld + 1 - ((n : Int) + 1)).toNat < (inchR B ld + 1 - (n : Int)).toNat
      omega
/-- What holds for some, for all of the first numbers from the empty deck's least on. -/
def eS (B : Book) (s ld h f : Int) (m : Nat) : Bool := (List.range m).any fun (j : Nat) => landsB B s ld h f (B.el + j)
def eA (B : Book) (s ld h f : Int) (m : Nat) : Bool := (List.range m).all fun (j : Nat) => landsB B s ld h f (B.el + j)
theorem eS_succ (B : Book) (s ld h f : Int) (m : Nat) : eS B s ld h f (m + 1) = (eS B s ld h f m || landsB B s ld h f (B.el + m)) := by simp [eS, List.range_succ]
theorem eA_succ (B : Book) (s ld h f : Int) (m : Nat) : eA B s ld h f (m + 1) = (eA B s ld h f m && landsB B s ld h f (B.el + m)) := by simp [eA, List.range_succ]
theorem eS_all {B : Book} (hV : Vld B) (s ld h f : Int) : eS B s ld h f (B.eh - B.el + 1).toNat = landsB B s ld h f B.el := by
  have := hV.ee
  rw [Bool.eq_iff_iff]
  unfold eS
  rw [List.any_eq_true]
  constructor
  · rintro ⟨j, _, hj⟩
    exact landsB_empty (by omega) hj
  · intro hl
    exact ⟨0, List.mem_range.2 (by omega), by simpa using hl⟩
theorem eA_all {B : Book} (hV : Vld B) (s ld h f : Int) : eA B s ld h f (B.eh - B.el + 1).toNat = landsB B s ld h f B.eh := by
  have := hV.ee
  rw [Bool.eq_iff_iff]
  unfold eA
  rw [List.all_eq_true]
  constructor
  · intro H
    have := H (B.eh - B.el).toNat (List.mem_range.2 (by omega))
    rwa [show B.el + (((B.eh - B.el).toNat : Nat) : Int) = B.eh by omega] at this
  · intro hl j hj
    have := List.mem_range.1 hj
    exact landsB_empty (by omega) hl
def kS (B : Book) (s ld f : Int) (l : List Int) (k : Nat) : Bool := (l.take k).any fun h => landsB B s ld h f B.el
def kA (B : Book) (s ld f : Int) (l : List Int) (k : Nat) : Bool := (l.take k).all fun h => landsB B s ld h f B.eh
theorem kS_succ (B : Book) (s ld f : Int) (l : List Int) (k : Nat) (h : k < l.length) : kS B s ld f l (k + 1) = (kS B s ld f l k || landsB B s ld l[k] f B.el) := by
  unfold kS
  rw [List.take_succ_eq_append_getElem h, List.any_append]; simp
theorem kA_succ (B : Book) (s ld f : Int) (l : List Int) (k : Nat) (h : k < l.length) : kA B s ld f l (k + 1) = (kA B s ld f l k && landsB B s ld l[k] f B.eh) := by
  unfold kA
  rw [List.take_succ_eq_append_getElem h, List.all_append]; simp
def iS (B : Book) (s hr ld : Int) (l : List (Int × Int)) (i : Nat) : Bool := (l.take i).any fun f => kS B s ld (fAt s f) (hts B hr f) (hts B hr f).length
def iA (B : Book) (s hr ld : Int) (l : List (Int × Int)) (i : Nat) : Bool := (l.take i).all fun f => kA B s ld (fAt s f) (hts B hr f) (hts B hr f).length
theorem iS_succ (B : Book) (s hr ld : Int) (l : List (Int × Int)) (i : Nat) (h : i < l.length) : iS B s hr ld l (i + 1) = (iS B s hr ld l i || kS B s ld (fAt s l[i]) (hts B hr l[i]) (hts B hr l[i]).length) := by
  unfold iS
  rw [List.take_succ_eq_append_getElem h, List.any_append]; simp
theorem iA_succ (B : Book) (s hr ld : Int) (l : List (Int × Int)) (i : Nat) (h : i < l.length) : iA B s hr ld l (i + 1) = (iA B s hr ld l i && kA B s ld (fAt s l[i]) (hts B hr l[i]) (hts B hr l[i]).length) := by
  unfold iA
  rw [List.take_succ_eq_append_getElem h, List.all_append]; simp
theorem iS_all (B : Book) (s hr ld : Int) : iS B s hr ld (cansB B) (cansB B).length = maybeB B s hr ld := by
  unfold iS kS maybeB mayB
  rw [List.take_length]
  congr 1
  funext f
  rw [List.take_length]
  rfl
theorem iA_all (B : Book) (s hr ld : Int) : iA B s hr ld (cansB B) (cansB B).length = sureB B s hr ld := by
  unfold iA kA sureB mustB
  rw [List.take_length]
  congr 1
  funext f
  rw [List.take_length]
  rfl
theorem kind_cases {B : Book} (hV : Vld B) (hc : ∃ f, CC B [] f) {s hr ld : Int} (h0 : 0 ≤ hr) (h1 : hr < B.tides.length) :
    (sureB B s hr ld = true ∧ kindB B s hr ld = 2) ∨ (sureB B s hr ld = false ∧ maybeB B s hr ld = true ∧ kindB B s hr ld = 1) ∨ (sureB B s hr ld = false ∧ maybeB B s hr ld = false ∧ kindB B s hr ld = 0) := by
  cases hs : sureB B s hr ld
  · right
    cases hm : maybeB B s hr ld
    · right; exact ⟨rfl, rfl, by simp [kindB, hs, hm]⟩
    · left; exact ⟨rfl, rfl, by simp [kindB, hs, hm]⟩
  · left
    exact ⟨rfl, by simp [kindB, hs, sure_maybe hV hc h0 h1 hs]⟩
end Go.Proofs.YtkbmpkdflgimmaaDoor
