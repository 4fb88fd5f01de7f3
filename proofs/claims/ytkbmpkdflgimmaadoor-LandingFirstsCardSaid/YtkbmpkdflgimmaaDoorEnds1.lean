/- Contracts of Within, tide, floor. -/
import Derived.Test.YtkbmpkdflgimmaaDoorAdds
namespace Go.Proofs.YtkbmpkdflgimmaaDoor
open Go.RowKit Go.Shelf

def withinI (a b n : Int) : Int := a + modI n (b - a + 1)
theorem withinI_range {a b n : Int} (h : a ≤ b) : a ≤ withinI a b n ∧ withinI a b n ≤ b := by
  have := modI_lt (n := n) (m := b - a + 1) (by omega)
  unfold withinI
  omega
def WithinIPost (a b n : Int) (w : World) (e : Ending) (w' : World) : Prop := e = .returned (i64 (withinI a b n)) ∧ Below w.heap.size w w'
set_option maxRecDepth 100000 in
set_option maxHeartbeats 2000000 in
theorem withinI_any (a b n : Int) (w : World) (ha : -1000 ≤ a) (hab : a ≤ b) (hb : b ≤ 1000) : Calls Tryd.prog 39 #[.agg #[i64 a, i64 b], i64 n] w (WithinIPost a b n w) := by
  have hb0 : Below w.heap.size w (w.alloc (.cells #[i64 a, i64 b] 24)) := (Below.refl _ w).alloc (Nat.le_refl _) _
  have hx0 : (w.alloc (.cells #[i64 a, i64 b] 24)).heap[w.heap.size]? = some (.cells #[i64 a, i64 b] 24 (0, 0)) := heap_alloc_new w _
  have hxc := cells_of hx0
  have hxl := (Array.getElem?_eq_some_iff.1 hx0).1
  have M0 := fun W => mod_back n (b - a + 1) (by omega) W
  have hm := modI_lt (n := n) (m := b - a + 1) (by omega)
  have hfin : Hid (withinI a b n = a + modI n (b - a + 1)) := Lib.hid rfl
  obtain ⟨m, hme⟩ : ∃ m, modI n (b - a + 1) = m := ⟨_, rfl⟩
  rw [hme] at M0 hm hfin
  clear hme
  have hw1 : -9223372036854775808 ≤ b - a := by omega
  have hw2 : b - a ≤ 9223372036854775807 := by omega
  have hw3 : -9223372036854775808 ≤ b - a + 1 := by omega
  have hw4 : b - a + 1 ≤ 9223372036854775807 := by omega
  have hw5 : -9223372036854775808 ≤ a + m := by omega
  have hw6 : a + m ≤ 9223372036854775807 := by omega
  go_enter Tryd.func39, Tryd.ntmps39
  go_wp2_with fail
  go_quiet ((go_at_call 24; with_reducible exact Calls.quiet_of_same (M0 _)))
  go_wp2_with fail
  go_ret
  exact ⟨by rw [hfin.out]; rfl, hb0.trans (drewN_below hb0.size _)⟩
theorem up_any (a b n : Int) (w : World) (ha : -1000 ≤ a ∧ a ≤ 1000) (hb : -1000 ≤ b ∧ b ≤ 1000) (hn : -1000 ≤ n ∧ n ≤ 1000) : Calls Tryd.prog 49 #[.agg #[i64 a, i64 b], i64 n] w (RangePost (a + n) (b + n) w) := by
  have hb0 : Below w.heap.size w ((w.alloc (.cells #[i64 a, i64 b] 24)).alloc (.cells #[i64 0, i64 0] 24)) := ((Below.refl _ w).alloc (Nat.le_refl _) _).alloc (by simp) _
  have hz0 : ((w.alloc (.cells #[i64 a, i64 b] 24)).alloc (.cells #[i64 0, i64 0] 24)).heap[w.heap.size + 1]? = some (.cells #[i64 0, i64 0] 24 (0, 0)) := heap_new_at _ _ _ (by simp)
  obtain ⟨h1, h2⟩ := ha
  obtain ⟨h3, h4⟩ := hb
  obtain ⟨h5, h6⟩ := hn
  have hw1 : -9223372036854775808 ≤ a + n := by omega
  have hw2 : a + n ≤ 9223372036854775807 := by omega
  have hw3 : -9223372036854775808 ≤ b + n := by omega
  have hw4 : b + n ≤ 9223372036854775807 := by omega
  go_enter Tryd.func49, Tryd.ntmps49
  go_wp2_with fail
  refine (range_any _ _ _).mono ?_
  rintro e w1 ⟨rfl, hb1⟩
  have hz1 := (hb1.block _ (Array.getElem?_eq_some_iff.1 hz0).1).trans hz0
  have hc := cells_of hz1
  have hf := frozen_of hz1
  have hl := (Array.getElem?_eq_some_iff.1 hz1).1
  have hbb := hb0.trans (hb1.mono hb0.size)
  clear hb0 hb1 hz0
  go_wp2_with fail
  have hset := set_two1 (set_two0 hz1 (i64 (a + n))) (i64 (b + n))
  have hcs := cells_of hset
  refine bodyPost_ret (v := .agg #[i64 (a + n), i64 (b + n)]) (by simp [results, Tryd.f49, go_sem, hcs]) rfl ⟨rfl, ?_⟩
  exact (hbb.setCell (p := ⟨w.heap.size + 1, 0, none⟩) (Nat.le_succ _) _).setCell (p := ⟨w.heap.size + 1, 1, none⟩) (Nat.le_succ _) _
/-- A book in which the floor of a shore is known. -/
def setFl (B : Book) (s n : Int) : Book := if s = 0 then { B with s0 := { B.s0 with fl := n, fh := n } } else { B with s1 := { B.s1 with fl := n, fh := n } }
set_option maxRecDepth 100000 in
set_option maxHeartbeats 4000000 in
theorem setFl_any (B : Book) (tb tq : Nat) (ta : Option Addr) (tc : Nat) (sb sq : Nat) (sa : Option Addr) (sc : Nat) (s n : Int) (w : World) (hT : SpansAt w.heap.size w tb tq ta B.tides) (hS : SoundsAt w.heap.size w sb sq sa B.sounds) (hs : s = 0 ∨ s = 1) :
    Calls Tryd.prog 41 #[bookVal B ta tc sa sc, i64 s, i64 n] w (BookPost (setFl B s n) w) := by
  have hb0 : Below w.heap.size w (((w.alloc (.cells (bookCells B ta tc sa sc) 30)).alloc (.cells zero30 30)).alloc (.cells zero30 30)) := (((Below.refl _ w).alloc (Nat.le_refl _) _).alloc (by simp <;> omega) _).alloc (by simp <;> omega) _
  have hx0 : ((w.alloc (.cells (bookCells B ta tc sa sc) 30)).alloc (.cells zero30 30)).heap[w.heap.size]? = some (.cells (bookCells B ta tc sa sc) 30 (0, 0)) := (Below.heap_alloc _ _ _ (by simp <;> omega)).trans (heap_alloc_new w _)
  have h2 : (((w.alloc (.cells (bookCells B ta tc sa sc) 30)).alloc (.cells zero30 30)).alloc (.cells zero30 30)).heap[w.heap.size + 1]? = some (.cells zero30 30 (0, 0)) := (Below.heap_alloc _ _ _ (by simp <;> omega)).trans (heap_new_at _ _ _ (by simp))
  have h3 : (((w.alloc (.cells (bookCells B ta tc sa sc) 30)).alloc (.cells zero30 30)).alloc (.cells zero30 30)).heap[w.heap.size + 2]? = some (.cells zero30 30 (0, 0)) := heap_new_at _ _ _ (by simp)
  have hst := SetAt.row (((w.alloc (.cells (bookCells B ta tc sa sc) 30)).alloc (.cells zero30 30)).alloc (.cells zero30 30)) (w.heap.size + 2) (bookCells B ta tc sa sc)
  have hy1 : ((((w.alloc (.cells (bookCells B ta tc sa sc) 30)).alloc (.cells zero30 30)).alloc (.cells zero30 30)).setRow (w.heap.size + 2) (bookCells B ta tc sa sc)).heap[w.heap.size + 2]? = some (.cells (bookCells B ta tc sa sc) 30 (0, 0)) := setRow_heap _ _ _ _ _ _ h3
  have hz1 := (hst.other (w.heap.size + 1) (by omega)).trans h2
  have hb1 := hst.below (Nat.le_add_right _ 2) hb0
  go_enter Tryd.func41, Tryd.ntmps41
  go_wp2_with (first | (refine ld30 rfl _ rfl _ _ rfl hx0 rfl ?_) | (refine st30 rfl _ _ rfl _ (bookCells B ta tc sa sc) zero30 rfl rfl h3 rfl rfl (by simp [Value.oneCell']) ?_))
  refine (point_any n _).mono ?_
  rintro e w2 ⟨rfl, hb2⟩
  have hy2 := (hb2.block _ (Array.getElem?_eq_some_iff.1 hy1).1).trans hy1
  have hz2 := (hb2.block _ (Array.getElem?_eq_some_iff.1 hz1).1).trans hz1
  have hbw := hb1.trans (hb2.mono hb1.size)
  clear hb0 hx0 h2 h3 hst hy1 hz1 hb1 hb2
  have hyc := cells_of hy2
  have hyf := frozen_of hy2
  have hyl := (Array.getElem?_eq_some_iff.1 hy2).1
  have fin : ∀ (k : Nat), (((bookCells B ta tc sa sc).setIfInBounds k (i64 n)).setIfInBounds (k + 1) (i64 n)) = bookCells (setFl B s n) ta tc sa sc → ∃ W, ((w2.setCell ⟨w.heap.size + 2, k, none⟩ (i64 n)).setCell ⟨w.heap.size + 2, k + 1, none⟩ (i64 n)) = W ∧ W.heap[w.heap.size + 2]? = some (.cells (bookCells (setFl B s n) ta tc sa sc) 30 (0, 0)) ∧ W.heap[w.heap.size + 1]? = some (.cells zero30 30 (0, 0)) ∧ Below w.heap.size w W := fun k hk =>
    ⟨_, rfl, by rw [← hk]; exact set_book' (k + 1) (set_book' k hy2 _) _, (Below.heap_setCell _ _ _ _ (by show w.heap.size + 1 ≠ w.heap.size + 2; omega)).trans ((Below.heap_setCell _ _ _ _ (by show w.heap.size + 1 ≠ w.heap.size + 2; omega)).trans hz2), (hbw.setCell (p := ⟨w.heap.size + 2, k, none⟩) (Nat.le_add_right _ 2) _).setCell (p := ⟨w.heap.size + 2, k + 1, none⟩) (Nat.le_add_right _ 2) _⟩
  have done : ∀ W : World, W.heap[w.heap.size + 2]? = some (.cells (bookCells (setFl B s n) ta tc sa sc) 30 (0, 0)) → W.heap[w.heap.size + 1]? = some (.cells zero30 30 (0, 0)) → Below w.heap.size w W → (W.setRow (w.heap.size + 1) (bookCells (setFl B s n) ta tc sa sc)).heap[w.heap.size + 1]? = some (.cells (bookCells (setFl B s n) ta tc sa sc) 30 (0, 0)) ∧ BookPost (setFl B s n) w (.returned (bookVal (setFl B s n) ta tc sa sc)) (W.setRow (w.heap.size + 1) (bookCells (setFl B s n) ta tc sa sc)) := fun W h1 h2 h3 => by
    have hset := SetAt.row W (w.heap.size + 1) (bookCells (setFl B s n) ta tc sa sc)
    have hbF := hset.below (Nat.le_add_right _ 1) h3
    have ht : (setFl B s n).tides = B.tides := by unfold setFl; split <;> rfl
    have hs : (setFl B s n).sounds = B.sounds := by unfold setFl; split <;> rfl
    exact ⟨setRow_heap _ _ _ _ _ _ h2, _, rfl, hbF, tb, tq, ta, tc, sb, sq, sa, sc, rfl, by rw [ht]; exact (hT.same (Same.of_below hbF)).up hbF.size, by rw [hs]; exact (hS.same (Same.of_below hbF)).up hbF.size⟩
  have doneH := Lib.hid done
  clear done hbw
  rcases hs with rfl | rfl
  · obtain ⟨W, hW, g1, g2, g3⟩ := fin 1 rfl
    go_wp2_with (first | (refine ld30 rfl _ rfl _ _ rfl g1 rfl ?_) | (refine st30 rfl _ _ rfl _ (bookCells (setFl B 0 n) ta tc sa sc) zero30 rfl rfl g2 rfl rfl (by simp [Value.oneCell']) ?_))
    exact bodyPost_ret (results_cell_row rfl _ _ (w.heap.size + 1) 30 _ (0, 0) _ rfl (doneH.out W g1 g2 g3).1 Tryd.underlying30 rfl (by rw [size30]; rfl)) rfl (doneH.out W g1 g2 g3).2
  · obtain ⟨W, hW, g1, g2, g3⟩ := fin 5 rfl
    go_wp2_with (first | (refine ld30 rfl _ rfl _ _ rfl g1 rfl ?_) | (refine st30 rfl _ _ rfl _ (bookCells (setFl B 1 n) ta tc sa sc) zero30 rfl rfl g2 rfl rfl (by simp [Value.oneCell']) ?_))
    exact bodyPost_ret (results_cell_row rfl _ _ (w.heap.size + 1) 30 _ (0, 0) _ rfl (doneH.out W g1 g2 g3).1 Tryd.underlying30 rfl (by rw [size30]; rfl)) rfl (doneH.out W g1 g2 g3).2
theorem setFl_v {B : Book} {v : Value} {w : World} (hB : BookV w v B) (s n : Int) (hs : s = 0 ∨ s = 1) : Calls Tryd.prog 41 #[v, i64 s, i64 n] w (BookPost (setFl B s n) w) := by
  obtain ⟨tb, tq, ta, tc, sb, sq, sa, sc, rfl, hT, hS⟩ := hB
  exact setFl_any B tb tq ta tc sb sq sa sc s n w hT hS hs
/-- The cells of a list of spans. -/
def flatT (l : List Span) : List Value := l.flatMap fun y => [i64 y.lo, i64 y.hi]
theorem flatT_len (l : List Span) : (flatT l).length = l.length * 2 := by
  induction l with
  | nil => rfl
  | cons y l ih => simp [flatT] at ih ⊢; omega
theorem flatT_one (l : List Span) : ∀ u ∈ flatT l, u.oneCell' = true := by
  intro u hu
  obtain ⟨y, _, h⟩ := List.mem_flatMap.1 hu
  simp at h
  rcases h with rfl | rfl <;> rfl
theorem flatT_snoc (l : List Span) (d : Span) : flatT (l ++ [d]) = flatT l ++ [i64 d.lo, i64 d.hi] := by simp [flatT]
theorem flatT_get (l : List Span) (k : Nat) (h : k < l.length) : (flatT l)[k * 2]? = some (i64 l[k].lo) ∧ (flatT l)[k * 2 + 1]? = some (i64 l[k].hi) := by
  induction l generalizing k with
  | nil => cases h
  | cons y l ih =>
    cases k with
    | zero => exact ⟨rfl, rfl⟩
    | succ k =>
      have := ih k (by simpa using h)
      rw [show (k + 1) * 2 = k * 2 + 1 + 1 by omega]
      exact this
theorem flatT_cells {n : Nat} {w : World} {b o : Nat} {a : Option Addr} {l : List Span} (h : SpansAt n w b o a l) : ∀ j u, (flatT l)[j]? = some u → w.cell? ((⟨b, o, none⟩ : Addr).add j) = some u := by
  intro j u hu
  have hj : j < l.length * 2 := by rw [← flatT_len]; exact (List.getElem?_eq_some_iff.1 hu).1
  rw [show (⟨b, o, none⟩ : Addr).add j = ⟨b, o + j, none⟩ by unfold Addr.add; split <;> simp_all]
  have hk : j / 2 < l.length := by omega
  obtain ⟨g1, g2⟩ := flatT_get l (j / 2) hk
  rcases (by omega : j = j / 2 * 2 ∨ j = j / 2 * 2 + 1) with e | e
  · rw [e] at hu ⊢
    rw [g1] at hu
    cases hu
    exact h.lo _ hk
  · rw [e] at hu ⊢
    rw [g2] at hu
    cases hu
    exact h.hi _ hk
theorem spans_row {z : Nat} {W : World} {v : Value} {l : List Span} (h : W.ownsRow z 24 2 v l.length (flatT l)) (hl : l.length ≤ 1000) : ∃ b a c, v = .slice a l.length c ∧ SpansAt W.heap.size W b 0 a l := by
  rcases h.2 with ⟨rfl, h0⟩ | ⟨g, cap, cur, rfl, h3, h4, h5, h6, h7, h8⟩
  · have : l = [] := List.length_eq_zero_iff.1 h0
    subst this
    exact ⟨0, none, 0, rfl, ⟨by simp, fun e => absurd rfl e, fun e => absurd rfl e, fun k hk => by simp at hk, fun k hk => by simp at hk⟩⟩
  · have hc : ∀ j u, (flatT l)[j]? = some u → W.cell? ⟨g, 0 + j, none⟩ = some u := fun j u hu => by
      have := h.cells (g := g) rfl j u hu
      rw [addr_add] at this
      rwa [Nat.zero_add]
    refine ⟨g, _, cap, rfl, ⟨by omega, fun _ => rfl, fun _ => (h.lt g rfl).2, fun k hk => hc _ _ (flatT_get l k hk).1, fun k hk => ?_⟩⟩
    exact hc (k * 2 + 1) _ (flatT_get l k hk).2
def rdTi (i : Nat) : List Nat := match i with
  | 0 => [14] | 1 => [15] | 2 => [16] | 3 => [17] | 4 => [18] | 5 => [19] | _ => []
def pureTi (i : Nat) : Bool := match i with
  | 4 => false | 6 => false | _ => true
def usTi (i : Nat) : List Nat := match i with
  | 1 => [0] | 4 => [3] | 5 => [1, 2] | 6 => [4, 5] | _ => []
def kpTi (i : Nat) : Bool := match i with
  | 6 => true | _ => false
def gTi (y g len c k : Nat) (n : Int) (cur : Array Value) (i : Nat) (vs : List Value) (W : World) : Prop := match i with
  | 0 => vs = [.pointer (some ⟨y, 0, none⟩)]
  | 1 => vs = [.slice (some ⟨g, 0, none⟩) len c]
  | 2 => vs = [i64 k]
  | 3 => vs = [i64 n]
  | 4 => vs = [.agg #[i64 n, i64 n]]
  | 5 => vs = [.pointer (some ⟨g, 0 + k * 2, none⟩)]
  | 6 => W.heap[g]? = some (.cells ((cur.setIfInBounds (k * 2) (i64 n)).setIfInBounds (k * 2 + 1) (i64 n)) 24 (0, 0))
  | _ => True
def STi (i : Nat) (w w' : World) : Prop := match i with
  | 4 => Below w.heap.size w w'
  | _ => True
def jTi (g : Nat) (cur : Array Value) (tk : Nat) (W : World) : Prop := match tk with
  | 6 => W.heap[g]? = some (.cells cur 24 (0, 0))
  | _ => True
abbrev withT (B : Book) (v : Value) (sa : Option Addr) (sc : Nat) : Array Value := #[v, i64 B.s0.fl, i64 B.s0.fh, i64 B.s0.lo, i64 B.s0.hi, i64 B.s1.fl, i64 B.s1.fh, i64 B.s1.lo, i64 B.s1.hi, i64 B.el, i64 B.eh, i64 B.sink, i64 B.under, .slice sa B.sounds.length sc]
theorem set_cells {W : World} {g k : Nat} {cs : Array Value} {t : TypeId} (h : W.heap[g]? = some (.cells cs t (0, 0))) (v : Value) : (W.setCell ⟨g, k, none⟩ v).heap[g]? = some (.cells (cs.setIfInBounds k v) t (0, 0)) := by
  simp [World.setCell, Array.getElem?_modify, h]
/-- A book in which the height of an hour is known. -/
def setTide (B : Book) (k : Nat) (n : Int) : Book := { B with tides := B.tides.set k ⟨n, n⟩ }
set_option maxRecDepth 100000 in
set_option maxHeartbeats 4000000 in
theorem setTide_any (B : Book) (tb tq : Nat) (ta : Option Addr) (tc : Nat) (sb sq : Nat) (sa : Option Addr) (sc : Nat) (k : Nat) (n : Int) (w : World) (hT : SpansAt w.heap.size w tb tq ta B.tides) (hS : SoundsAt w.heap.size w sb sq sa B.sounds) (hk : k < B.tides.length) (h24 : B.tides.length ≤ 24) :
    Calls Tryd.prog 40 #[bookVal B ta tc sa sc, i64 k, i64 n] w (BookPost (setTide B k n) w) := by
  have hb0 : Below w.heap.size w (((w.alloc (.cells (bookCells B ta tc sa sc) 30)).alloc (.cells zero30 30)).alloc (.cells zero30 30)) := (((Below.refl _ w).alloc (Nat.le_refl _) _).alloc (by simp <;> omega) _).alloc (by simp <;> omega) _
  have hx0 : ((w.alloc (.cells (bookCells B ta tc sa sc) 30)).alloc (.cells zero30 30)).heap[w.heap.size]? = some (.cells (bookCells B ta tc sa sc) 30 (0, 0)) := (Below.heap_alloc _ _ _ (by simp <;> omega)).trans (heap_alloc_new w _)
  have h1 : (((w.alloc (.cells (bookCells B ta tc sa sc) 30)).alloc (.cells zero30 30)).alloc (.cells zero30 30)).heap[w.heap.size]? = some (.cells (bookCells B ta tc sa sc) 30 (0, 0)) := (Below.heap_alloc _ _ _ (by simp <;> omega)).trans hx0
  have h2 : (((w.alloc (.cells (bookCells B ta tc sa sc) 30)).alloc (.cells zero30 30)).alloc (.cells zero30 30)).heap[w.heap.size + 1]? = some (.cells zero30 30 (0, 0)) := (Below.heap_alloc _ _ _ (by simp <;> omega)).trans (heap_new_at _ _ _ (by simp))
  have h3 : (((w.alloc (.cells (bookCells B ta tc sa sc) 30)).alloc (.cells zero30 30)).alloc (.cells zero30 30)).heap[w.heap.size + 2]? = some (.cells zero30 30 (0, 0)) := heap_new_at _ _ _ (by simp)
  have hst := SetAt.row (((w.alloc (.cells (bookCells B ta tc sa sc) 30)).alloc (.cells zero30 30)).alloc (.cells zero30 30)) (w.heap.size + 2) (bookCells B ta tc sa sc)
  have hy1 : ((((w.alloc (.cells (bookCells B ta tc sa sc) 30)).alloc (.cells zero30 30)).alloc (.cells zero30 30)).setRow (w.heap.size + 2) (bookCells B ta tc sa sc)).heap[w.heap.size + 2]? = some (.cells (bookCells B ta tc sa sc) 30 (0, 0)) := setRow_heap _ _ _ _ _ _ h3
  have hz1 := (hst.other (w.heap.size + 1) (by omega)).trans h2
  have hx1 := (hst.other w.heap.size (by omega)).trans h1
  have hb1 := hst.below (Nat.le_add_right _ 2) hb0
  have hsz : (((w.alloc (.cells (bookCells B ta tc sa sc) 30)).alloc (.cells zero30 30)).alloc (.cells zero30 30)).heap.size = w.heap.size + 3 := by simp
  have hsz1 := hst.size.trans hsz
  obtain ⟨W1, hW1⟩ : ∃ W1, ((((w.alloc (.cells (bookCells B ta tc sa sc) 30)).alloc (.cells zero30 30)).alloc (.cells zero30 30)).setRow (w.heap.size + 2) (bookCells B ta tc sa sc)) = W1 := ⟨_, rfl⟩
  rw [hW1] at hy1 hz1 hx1 hb1 hsz1
  obtain rfl := hT.at_ (ne_nil_of_lt hk)
  have hne : B.tides.length ≠ 0 := by omega
  obtain ⟨i0, hi, hi1, hi2, hi3⟩ := info_parts info24'
  have hbz : Below W1.heap.size W1 (W1.alloc (.cells #[] 24)) := (Below.refl _ _).alloc (Nat.le_refl _) _
  have hx2 := (hbz.block _ (Array.getElem?_eq_some_iff.1 hx1).1).trans hx1
  have hy2 := (hbz.block _ (Array.getElem?_eq_some_iff.1 hy1).1).trans hy1
  have hz2 := (hbz.block _ (Array.getElem?_eq_some_iff.1 hz1).1).trans hz1
  have hb2 := hb1.trans (hbz.mono hb1.size)
  have hxc2 := cells_of hx2
  have hxl2 := (Array.getElem?_eq_some_iff.1 hx2).1
  have hown0 : (W1.alloc (.cells #[] 24)).ownsRow (w.heap.size + 3) 24 2 (.slice (some ⟨w.heap.size + 3, 0, none⟩) 0 0) 0 [] := ⟨rfl, .inr ⟨_, 0, _, rfl, Nat.le_refl _, heap_new_at W1 _ _ hsz1.symm, Nat.le_refl _, Nat.zero_le _, rfl, rfl⟩⟩
  have hT2 := hT.same (Same.of_below hb2)
  have hnews := flatT_cells hT2
  have htl := hT.len
  have hbase : w.heap.size + 3 ≤ (W1.alloc (.cells #[] 24)).heap.size := by have := hbz.size; omega
  have hbasl : w.heap.size + 2 < (W1.alloc (.cells #[] 24)).heap.size := by have := hbz.size; omega
  have hne3 : some (w.heap.size + 2) ≠ some (w.heap.size + 3) := by simp
  go_enter Tryd.func40, Tryd.ntmps40
  go_wp2_with (first | (refine ld30 rfl _ rfl _ _ rfl hx0 rfl ?_) | (refine st30 rfl _ _ rfl _ (bookCells B (some ⟨tb, tq, none⟩) tc sa sc) zero30 rfl rfl h3 rfl rfl (by simp [Value.oneCell']) ?_) | (at_builtin; refine wpList_append_own _ rfl _ _ 22 rfl (w.heap.size + 3) 24 i0 (.agg #[i64 0, i64 0]) 2 16 Tryd.underlying22 hi hi1 hi2 hi3 rfl (by decide) _ _ _ rfl hown0 ⟨tb, tq, none⟩ B.tides.length tc (flatT B.tides) rfl (flatT_len _) hnews (flatT_one _) (by unfold maxLen; omega) (by omega) hbase ?_; intro v' w2 hown' hgrow0 hnil; have hgrow : World.grownBy (W1.alloc (.cells #[] 24)) w2 (some (w.heap.size + 3)) := hgrow0; clear hgrow0; obtain ⟨a', c', rfl⟩ := slice_of_row hown'; have hy3 := (hgrow.block (w.heap.size + 2) hbasl hne3).trans hy2; have hyc3 := cells_of hy3; have hyf3 := frozen_of hy3; have hyl3 := (Array.getElem?_eq_some_iff.1 hy3).1))
  have hz3 := (hgrow.block (w.heap.size + 1) (by have := hbasl; omega) (by simp)).trans hz2
  have hb3 : Below w.heap.size w w2 := hb2.grown hgrow (by have := hbase; omega) (fun j e => by have := Option.some.inj e; omega)
  have hrow : w2.ownsRow (w.heap.size + 3) 24 2 (.slice a' B.tides.length c') B.tides.length (flatT B.tides) := by simpa using hown'
  refine abs_world (fun W => w.heap.size + 3 ≤ W.heap.size ∧ Below w.heap.size w W ∧ W.heap[w.heap.size + 1]? = some (.cells zero30 30 (0, 0)) ∧ W.heap[w.heap.size + 2]? = some (.cells (withT B (.slice a' B.tides.length c') sa sc) 30 (0, 0)) ∧ W.ownsRow (w.heap.size + 3) 24 2 (.slice a' B.tides.length c') B.tides.length (flatT B.tides)) ⟨by have := hgrow.size; simp [World.setCell]; omega, hb3.setCell (p := ⟨w.heap.size + 2, 0, none⟩) (Nat.le_add_right _ 2) _, (Below.heap_setCell _ _ _ _ (by show w.heap.size + 1 ≠ w.heap.size + 2; omega)).trans hz3, set_book' 0 hy3 _, ownsRow_keep (y := w.heap.size + 2) hrow (by omega) (fun j _ hj => Below.heap_setCell _ _ _ _ hj)⟩ ?_
  clear hb0 hx0 h1 h2 h3 hst hy1 hz1 hx1 hb1 hsz hsz1 hW1 hbz hx2 hy2 hz2 hb2 hxc2 hxl2 hown0 hT2 hnews hbase hbasl hne3 hy3 hyc3 hyf3 hyl3 hz3 hb3 hrow hown' hgrow hnil
  rintro W4 ⟨hsz, hbw, hz, hy, hrow⟩
  have hTg0 := spans_row hrow (by omega)
  rcases hrow.2 with ⟨_, h0⟩ | ⟨g, cap, cur, heq, hzg, hg, hlc, _, hcs, htake⟩
  · omega
  obtain ⟨rfl, rfl⟩ : a' = some ⟨g, 0, none⟩ ∧ c' = cap := by simpa using heq
  obtain ⟨b2, a2, c2, heq2, hTg⟩ := hTg0
  obtain ⟨rfl, rfl⟩ : some ⟨g, 0, none⟩ = a2 ∧ c' = c2 := by simpa using heq2
  obtain rfl : g = b2 := by have := hTg.at_ (ne_nil_of_lt hk); simpa using this
  have hi22 : ∀ W, (Instr.indexAt 22 (.slice (some ⟨g, 0, none⟩) B.tides.length c') (.int .i64 (k : Int))).run Tryd.prog W = .ok (.pointer (some ⟨g, 0 + k * 2, none⟩)) W := fun W => idx22 W rfl hk
  clear heq heq2 htake hrow
  refine rj_region rdTi pureTi usTi kpTi (gTi (w.heap.size + 2) g B.tides.length c' k n cur) (Below (w.heap.size + 3)) STi (jTi g cur) (by kernel_rfl) (by kernel_rfl) (by kernel_rfl) ?_ (fun n => ⟨rfl, rfl, rfl, Nat.le_refl _, fun _ _ => rfl⟩) (fun A => Below.refl _ A) (fun i A => by unfold STi; split <;> first | exact Below.refl _ _ | trivial) (fun _ _ _ h k => Below.trans h k) ?_ ?_ ?_ ?_
  · intro tk nd htk
    match tk, htk with
    | 6, _ => exact hg
    | 0, _ => trivial
    | 1, _ => trivial
    | 2, _ => trivial
    | 3, _ => trivial
    | 4, _ => trivial
    | 5, _ => trivial
    | _ + 7, htk => exact absurd htk (by simp)
  · intro kk i hk hi hn vs wA wB hG hR hS'
    match kk, hk, hn, hG with
    | 0, _, _, hG => exact hG
    | 1, _, _, hG => exact hG
    | 2, _, _, hG => exact hG
    | 3, _, _, hG => exact hG
    | 4, _, _, hG => exact hG
    | 5, _, _, hG => exact hG
    | 6, _, hn, _ =>
      match i, hi, hn, hS' with
      | 0, _, hn, _ => exact absurd (show false = true from hn) (by decide)
      | 1, _, hn, _ => exact absurd (show false = true from hn) (by decide)
      | 2, _, hn, _ => exact absurd (show false = true from hn) (by decide)
      | 3, _, hn, _ => exact absurd (show false = true from hn) (by decide)
      | 4, _, hn, _ => exact absurd (show false = true from hn) (by decide)
      | 5, _, hn, _ => exact absurd (show false = true from hn) (by decide)
      | 6, _, hn, _ => exact absurd (show false = true from hn) (by decide)
      | _ + 7, hi, _, _ => exact absurd hi (by simp)
    | _ + 7, hk, _, _ => exact absurd hk (by simp)
  · intro tk i htk hi hn wA wB hJ hR hS'
    match tk, htk, hn, hJ with
    | 6, _, hn, hJ =>
      match i, hi, hn, hS' with
      | 0, _, hn, _ => exact absurd (show false = true from hn) (by decide)
      | 1, _, hn, _ => exact absurd (show false = true from hn) (by decide)
      | 2, _, hn, _ => exact absurd (show false = true from hn) (by decide)
      | 3, _, hn, _ => exact absurd (show false = true from hn) (by decide)
      | 4, _, _, hS' => exact (Below.block hS' _ (Array.getElem?_eq_some_iff.1 hJ).1).trans hJ
      | 5, _, hn, _ => exact absurd (show false = true from hn) (by decide)
      | 6, _, hn, _ => exact absurd (show false = true from hn) (by decide)
      | _ + 7, hi, _, _ => exact absurd hi (by simp)
    | 0, _, _, _ => trivial
    | 1, _, _, _ => trivial
    | 2, _, _, _ => trivial
    | 3, _, _, _ => trivial
    | 4, _, _, _ => trivial
    | 5, _, _, _ => trivial
    | _ + 7, htk, _, _ => exact absurd htk (by simp)
  · intro i op ho act wA hR hF hD hJ
    have sz : act.tmps.size = 21 := hF.size
    have hyA := (Below.block hR (w.heap.size + 2) (by omega)).trans hy
    have hyc := cells_of hyA
    match i, ho, hD, hJ with
    | 0, ho, hD, hJ =>
      cases ho
      have e7 := slot_tmps (show slotOf act 7 = .pointer (some ⟨w.heap.size + 2, 0, none⟩) from hF.slot 7 (by kernel_rfl))
      exact rsw_val (wanted_none rfl) (.pointer (some ⟨w.heap.size + 2, 0, none⟩)) (by simp [go_sem, e7]) (Below.refl _ _) trivial (congrArg (fun v => [v]) (slotOf_same act 14 _ (by omega)))
    | 1, ho, hD, hJ =>
      cases ho
      have e14 := slot_tmps (List.cons.inj (hD 0 (by decide))).1
      exact rsw_val (wanted_none rfl) (.slice (some ⟨g, 0, none⟩) B.tides.length c') (by simp [go_sem, e14, hyc]) (Below.refl _ _) trivial (congrArg (fun v => [v]) (slotOf_same act 15 _ (by omega)))
    | 2, ho, hD, hJ =>
      cases ho
      have e1 := slot_tmps (show slotOf act 1 = i64 k from hF.slot 1 (by kernel_rfl))
      exact rsw_val (wanted_none rfl) (i64 k) (by simp [go_sem, e1]) (Below.refl _ _) trivial (congrArg (fun v => [v]) (slotOf_same act 16 _ (by omega)))
    | 3, ho, hD, hJ =>
      cases ho
      have e2 := slot_tmps (show slotOf act 2 = i64 n from hF.slot 2 (by kernel_rfl))
      exact rsw_val (wanted_none rfl) (i64 n) (by simp [go_sem, e2]) (Below.refl _ _) trivial (congrArg (fun v => [v]) (slotOf_same act 17 _ (by omega)))
    | 4, ho, hD, hJ =>
      cases ho
      have e17 := slot_tmps (List.cons.inj (hD 3 (by decide))).1
      refine rsw_call (wanted_none rfl) 37 #[i64 n] (by simp [go_sem, e17]) rfl ?_
      refine (point_any n _).mono ?_
      rintro e wB ⟨rfl, hb⟩
      exact ⟨_, rfl, hb.mono (Nat.le_trans hsz hR.size), hb, congrArg (fun v => [v]) (slotOf_same act 18 _ (by omega))⟩
    | 5, ho, hD, hJ =>
      cases ho
      have e15 := slot_tmps (List.cons.inj (hD 1 (by decide))).1
      have e16 := slot_tmps (List.cons.inj (hD 2 (by decide))).1
      exact rsw_val (wanted_none rfl) (.pointer (some ⟨g, 0 + k * 2, none⟩)) (by simp [go_sem, e15, e16, hi22]) (Below.refl _ _) trivial (congrArg (fun v => [v]) (slotOf_same act 19 _ (by omega)))
    | 6, ho, hD, hJ =>
      cases ho
      have e18 := slot_tmps (List.cons.inj (hD 4 (by decide))).1
      have e19 := slot_tmps (List.cons.inj (hD 5 (by decide))).1
      have hgA : wA.heap[g]? = _ := hJ 6 _ rfl (.inl rfl)
      have hgc := cells_of hgA
      have hgf := frozen_of hgA
      have q0 : cur[k * 2]? = some (cur[k * 2]'(by omega)) := Array.getElem?_eq_getElem _
      have q1 : cur[k * 2 + 1]? = some (cur[k * 2 + 1]'(by omega)) := Array.getElem?_eq_getElem _
      refine rsw_wp (wanted_none rfl) rfl (wp_of_skip (w' := (wA.setCell ⟨g, k * 2, none⟩ (i64 n)).setCell ⟨g, k * 2 + 1, none⟩ (i64 n)) (by simp [go_sem, e18, e19, hgc, hgf, q0, q1]) ?_)
      exact ⟨_, rfl, ((Below.refl _ _).setCell (p := ⟨g, k * 2, none⟩) hzg _).setCell (p := ⟨g, k * 2 + 1, none⟩) hzg _, trivial, set_cells (set_cells hgA _) _⟩
    | _ + 7, ho, _, _ => cases ho
  · intro act wA hR hF hA
    have hgN := hA 6 (by decide) rfl
    have f6 : slotOf act 6 = .pointer (some ⟨w.heap.size + 1, 0, none⟩) := hF.slot 6 (by kernel_rfl)
    have f7 : slotOf act 7 = .pointer (some ⟨w.heap.size + 2, 0, none⟩) := hF.slot 7 (by kernel_rfl)
    rw [act_eta act 21 hF.size hF.defers]
    simp only [show List.range 21 = [0, 1, 2, 3, 4, 5, 6, 7, 8, 9, 10, 11, 12, 13, 14, 15, 16, 17, 18, 19, 20] from rfl, List.map_cons, List.map_nil, f6, f7]
    clear hA hF f6 f7
    have hzA := (Below.block hR (w.heap.size + 1) (by omega)).trans hz
    have hyA := (Below.block hR (w.heap.size + 2) (by omega)).trans hy
    have hbA : Below w.heap.size w wA := Below.trans hbw ⟨hR.os, hR.tape, hR.output, hR.size, fun j hj => Below.block hR j (by omega)⟩
    have hcN := cells_of hgN
    have hcO := cells_of hg
    have hgl := (Array.getElem?_eq_some_iff.1 hgN).1
    have hkk : k * 2 + 1 < cur.size := by omega
    have hTn : SpansAt wA.heap.size wA g 0 (some ⟨g, 0, none⟩) (B.tides.set k ⟨n, n⟩) := by
      refine ⟨by simpa using hTg.len, fun _ => rfl, fun _ => hgl, fun j hj => ?_, fun j hj => ?_⟩
      · rw [List.length_set] at hj
        rw [hcN, Array.getElem?_setIfInBounds_ne (by omega), List.getElem_set]
        by_cases hjk : k = j
        · subst hjk
          rw [if_pos rfl, Nat.zero_add, Array.getElem?_setIfInBounds_self_of_lt (by omega)]
        · rw [if_neg hjk, Array.getElem?_setIfInBounds_ne (by omega), ← hcO]
          exact hTg.lo j hj
      · rw [List.length_set] at hj
        rw [hcN, List.getElem_set]
        by_cases hjk : k = j
        · subst hjk
          rw [if_pos rfl, Nat.zero_add, Array.getElem?_setIfInBounds_self_of_lt (by simp; omega)]
        · rw [if_neg hjk, Array.getElem?_setIfInBounds_ne (by omega), Array.getElem?_setIfInBounds_ne (by omega), ← hcO]
          exact hTg.hi j hj
    have hcells : withT B (.slice (some ⟨g, 0, none⟩) B.tides.length c') sa sc = bookCells (setTide B k n) (some ⟨g, 0, none⟩) c' sa sc := by simp [setTide]
    rw [hcells] at hyA
    have hset := SetAt.row wA (w.heap.size + 1) (bookCells (setTide B k n) (some ⟨g, 0, none⟩) c' sa sc)
    have hbF := hset.below (Nat.le_add_right _ 1) hbA
    have hSF := (hS.same (Same.of_below hbF)).up hbF.size
    have hTF := span_set (z := w.heap.size + 1) (cs := bookCells (setTide B k n) (some ⟨g, 0, none⟩) c' sa sc) hTn (fun _ e => by omega)
    clear hR hT hS hbw hz hy hg hgN hcN hcO hTn hTg hcells hbA
    go_wp2_with (first | (refine ld30 rfl _ rfl _ _ rfl hyA rfl ?_) | (refine st30 rfl _ _ rfl _ (bookCells (setTide B k n) (some ⟨g, 0, none⟩) c' sa sc) zero30 rfl rfl hzA rfl rfl (by simp [Value.oneCell']) ?_))
    refine bodyPost_ret (results_cell_row rfl _ _ (w.heap.size + 1) 30 _ (0, 0) _ rfl (setRow_heap _ _ _ _ _ _ hzA) Tryd.underlying30 rfl (by rw [size30]; rfl)) rfl ?_
    exact ⟨_, rfl, hbF, g, 0, some ⟨g, 0, none⟩, c', sb, sq, sa, sc, rfl, hTF, hSF⟩
theorem setTide_v {B : Book} {v : Value} {w : World} (hB : BookV w v B) (k : Nat) (n : Int) (hk : k < B.tides.length) (h24 : B.tides.length ≤ 24) : Calls Tryd.prog 40 #[v, i64 k, i64 n] w (BookPost (setTide B k n) w) := by
  obtain ⟨tb, tq, ta, tc, sb, sq, sa, sc, rfl, hT, hS⟩ := hB
  exact setTide_any B tb tq ta tc sb sq sa sc k n w hT hS hk h24
end Go.Proofs.YtkbmpkdflgimmaaDoor
