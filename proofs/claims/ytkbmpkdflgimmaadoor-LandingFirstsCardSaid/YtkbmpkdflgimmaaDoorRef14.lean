/- The reference's Members and Without; the law of the best numbers. (Printed by genref14.py.) -/
import Derived.Test.YtkbmpkdflgimmaaDoorRef13
namespace Go.Proofs.YtkbmpkdflgimmaaDoor
open Go.RowKit Go.Shelf

def memI (n : Int) (k : Nat) : Bool := bits BinOp.and IntKind.i64 (n / 2 ^ min k 64) 1 == 1
theorem memI_test : ∀ n < 64, ∀ k < 6, memI ((n : Nat) : Int) k = n.testBit k := by decide +kernel
theorem memX_any (n : Int) (k : Nat) (w : World) : Calls Tryd.prog 82 #[i64 n, i64 k] w fun e w' => e = .returned (.bool (memI n k)) ∧ w = w' := by
  have hk : ¬ (k : Int) < 0 := by omega
  go_enter Tryd.func82, Tryd.ntmps82
  go_wp2
  go_ret
  exact ⟨rfl, rfl⟩
def setL (n m : Nat) : List Int := ((List.range m).filter fun k => n.testBit k).map fun (k : Nat) => (k : Int)
theorem setL_succ (n m : Nat) : setL n (m + 1) = setL n m ++ (if n.testBit m then [(m : Int)] else []) := by
  unfold setL
  rw [List.range_succ, List.filter_append, List.map_append]
  cases h : n.testBit m <;> simp [h]
theorem mem_setL {n m k : Nat} : (k : Int) ∈ setL n m ↔ k < m ∧ n.testBit k = true := by
  unfold setL
  simp only [List.mem_map, List.mem_filter, List.mem_range]
  constructor
  · rintro ⟨a, h, e⟩
    obtain rfl : a = k := by omega
    exact h
  · exact fun h => ⟨k, h, rfl⟩
theorem setL_rising (n m : Nat) : Rising m (setL n m) := by
  refine ⟨?_, fun x hx => ?_⟩
  · unfold setL
    rw [List.pairwise_map]
    exact (List.Pairwise.imp (R := (· < ·)) (fun h => by omega) List.pairwise_lt_range).filter _
  · unfold setL at hx
    simp only [List.mem_map, List.mem_filter, List.mem_range] at hx
    obtain ⟨a, h, rfl⟩ := hx
    omega
theorem setL_congr {n n' m : Nat} (h : ∀ k, k < m → n.testBit k = n'.testBit k) : setL n m = setL n' m := by
  unfold setL
  rw [List.filter_congr (fun k hk => h k (List.mem_range.1 hk))]
theorem setL_all (m : Nat) : setL (2 ^ m - 1) m = allI m := by
  unfold setL allI
  rw [List.filter_eq_self.2 (fun k hk => by rw [Nat.testBit_two_pow_sub_one]; exact decide_eq_true (List.mem_range.1 hk))]
theorem rising_setL : ∀ (m : Nat) (l : List Int), Rising m l → ∃ j, j < 2 ^ m ∧ setL j m = l
  | 0, l, h => ⟨0, by decide, by
      cases l with
      | nil => rfl
      | cons x l => have := h.2 x (by simp); omega⟩
  | m + 1, l, h => by
    by_cases hm : (m : Int) ∈ l
    · obtain ⟨l', z, rfl⟩ : ∃ l' z, l = l' ++ [z] := ⟨l.dropLast, l.getLast (List.ne_nil_of_mem hm), (List.dropLast_concat_getLast _).symm⟩
      have hp := List.pairwise_append.1 h.1
      have hz := h.2 z (by simp)
      have hzm : z = m := by
        rcases List.mem_append.1 hm with h1 | h1
        · have := hp.2.2 _ h1 z (by simp); omega
        · exact (List.mem_singleton.1 h1).symm
      subst hzm
      obtain ⟨j, hj, he⟩ := rising_setL m l' ⟨hp.1, fun x hx => by have h1 := hp.2.2 x hx m (by simp); have h2 := h.2 x (by simp [hx]); omega⟩
      refine ⟨2 ^ m + j, by rw [Nat.pow_succ]; omega, ?_⟩
      rw [setL_succ, Nat.testBit_two_pow_add_eq, Nat.testBit_lt_two_pow hj, setL_congr (n' := j) (fun k hk => Nat.testBit_two_pow_add_gt hk j), he]
      rfl
    · obtain ⟨j, hj, he⟩ := rising_setL m l ⟨h.1, fun x hx => by
        have h2 := h.2 x hx
        have : x ≠ m := fun e => hm (e ▸ hx)
        omega⟩
      refine ⟨j, by rw [Nat.pow_succ]; omega, ?_⟩
      rw [setL_succ, Nat.testBit_lt_two_pow hj, he]
      simp
theorem before_total : ∀ {l m : List Int}, l.length = m.length → beforeB l m = false → beforeB m l = false → l = m
  | [], [], _, _, _ => rfl
  | [], _ :: _, h, _, _ => by cases h
  | _ :: _, [], h, _, _ => by cases h
  | x :: l, y :: m, h, h1, h2 => by
    unfold beforeB at h1 h2
    by_cases hxy : x = y
    · rw [if_pos hxy] at h1
      rw [if_pos hxy.symm] at h2
      rw [hxy, before_total (by simpa using h) h1 h2]
    · rw [if_neg hxy] at h1
      rw [if_neg (fun e => hxy e.symm)] at h2
      have a := of_decide_eq_false h1
      have b := of_decide_eq_false h2
      omega
theorem better_total {l m : List Int} (h1 : betterB l m = false) (h2 : betterB m l = false) : l = m := by
  unfold betterB at h1 h2
  simp only [Bool.or_eq_false_iff, decide_eq_false_iff_not, Bool.and_eq_false_iff] at h1 h2
  have hl : l.length = m.length := by omega
  exact before_total hl (h1.2.resolve_left (fun h => h hl)) (h2.2.resolve_left (fun h => h hl.symm))
def bestB (B : Book) : Nat → List Int
  | 0 => setL (2 ^ B.sounds.length - 1) B.sounds.length
  | n + 1 => if (betterB (setL n B.sounds.length) (bestB B n) && okB B (setL n B.sounds.length)) = true then setL n B.sounds.length else bestB B n
theorem best_inv {B : Book} (hV : Vld B) {jw : Nat} (hj : setL jw B.sounds.length = wrongL B) : ∀ n, Rising B.sounds.length (bestB B n) ∧ okB B (bestB B n) = true ∧ (jw < n → bestB B n = wrongL B)
  | 0 => ⟨setL_rising _ _, by show okB B (setL _ _) = true; rw [setL_all]; exact okB_all hV, fun h => absurd h (by omega)⟩
  | n + 1 => by
    obtain ⟨h1, h2, h3⟩ := best_inv hV hj n
    obtain ⟨_, w2, w3⟩ := wrong_spec hV
    unfold bestB
    split
    · rename_i hc
      rw [Bool.and_eq_true] at hc
      refine ⟨setL_rising _ _, hc.2, fun hlt => ?_⟩
      by_cases hjn : jw = n
      · rw [← hjn, hj]
      · have hb := h3 (by omega)
        rw [hb] at hc
        rw [w3 _ (setL_rising _ _) hc.1] at hc
        exact absurd hc.2 (by decide)
    · rename_i hc
      refine ⟨h1, h2, fun hlt => ?_⟩
      by_cases hjn : jw = n
      · subst hjn
        rw [hj, w2, Bool.and_true] at hc
        refine better_total ?_ (by simpa using hc)
        cases hb : betterB (bestB B jw) (wrongL B)
        · rfl
        · rw [w3 _ h1 hb] at h2
          exact absurd h2 (by decide)
      · exact h3 (by omega)
theorem best_all {B : Book} (hV : Vld B) : bestB B (2 ^ B.sounds.length) = wrongL B := by
  obtain ⟨j, hj, he⟩ := rising_setL _ _ (wrong_spec hV).1
  exact (best_inv hV he _).2.2 hj
def MemXPost (n m : Nat) (w : World) (e : Ending) (w' : World) : Prop := ∃ v, e = .returned v ∧ Below w.heap.size w w' ∧ ListV w' v (setL n m)
set_option maxRecDepth 100000 in
set_option maxHeartbeats 4000000 in
theorem membersX_any (n m : Nat) (w : World) (hn : n < 64) (hm : m ≤ 6) : Calls Tryd.prog 45 #[i64 n, i64 m] w (MemXPost n m w) := by
  have hb0 : Below w.heap.size w (w.alloc (.cells #[] 3)) := (Below.refl _ w).alloc (Nat.le_refl _) _
  have hown0 : (w.alloc (.cells #[] 3)).ownsRow w.heap.size 3 1 (.slice (some ⟨w.heap.size, 0, none⟩) 0 0) 0 [] := ⟨rfl, .inr ⟨_, 0, _, rfl, Nat.le_refl _, heap_alloc_new w _, Nat.le_refl _, Nat.zero_le _, rfl, rfl⟩⟩
  go_enter Tryd.func45, Tryd.ntmps45
  go_wp2_with fail
  go_loopw [6, 5] (fun i v wr => ∃ k : Nat, k ≤ m ∧ i = .int .i64 k ∧ wr.ownsRow w.heap.size 3 1 v (setL n k).length ((setL n k).map i64) ∧ Below w.heap.size w wr) (fun i _ _ => m - (intOf i).toNat)
  case atStart => exact ⟨0, Nat.zero_le _, rfl, hown0, hb0⟩
  case round =>
    obtain ⟨k, hk, rfl, hrow, hbw⟩ := hrel
    by_cases hlt : k < m
    · have hlt' : (k : Int) < (m : Int) := by omega
      have hll := rising_len (setL_rising n k)
      have hsucc := setL_succ n k
      have hmt := memI_test n hn k (by omega)
      obtain ⟨i0, hi, hz0, hz1', hz2⟩ := info_parts info3
      go_wp2_with fail
      refine (memX_any n k _).mono ?_
      rintro e w2 ⟨rfl, rfl⟩
      rw [hmt]
      cases hb : n.testBit k
      · rw [hb, if_neg (by decide), List.append_nil] at hsucc
        replace hsucc := Lib.hid hsucc
        clear hb hmt
        go_wp2_with fail
        go_roundw
        case rel => exact ⟨k + 1, by omega, by go_num, by rw [hsucc.out]; exact hrow, hbw⟩
        case measure => simp [intOf]; omega
      · rw [hb, if_pos rfl] at hsucc
        replace hsucc := Lib.hid hsucc
        clear hb hmt
        go_wp2_with (at_builtin; refine wpList_append_own _ rfl _ _ 40 rfl w.heap.size 3 i0 (i64 0) 1 8 Tryd.underlying40 hi hz0 hz1' hz2 rfl (by decide) _ _ _ rfl (hrow.alloc _) ⟨wr.heap.size, 0, none⟩ 1 1 [i64 k] rfl rfl (cell_one_new _ _ _) (by simp [Value.oneCell']) (by unfold maxLen; omega) (by omega) (by have := hbw.size; simp; omega) ?_; intro v' w4 hown' hgrow hnil)
        have hbw4 : Below w.heap.size w w4 := (hbw.alloc hbw.size _).grown hgrow (by have := hbw.size; simp; omega) (fun j e => (hrow.lt j e).1)
        go_roundw
        case rel => exact ⟨k + 1, by omega, by go_num, by rw [hsucc.out]; simpa using hown', hbw4⟩
        case measure => simp [intOf]; omega
    · have hlt' : ¬ (k : Int) < (m : Int) := by omega
      obtain rfl : k = m := by omega
      have hll := rising_len (setL_rising n k)
      have hL : ListV wr _ (setL n k) := ListV.of_row hrow (by omega)
      obtain ⟨b, o, a, c, rfl, hlc, hI⟩ := hL
      go_wp2_with fail
      go_ret
      exact ⟨_, rfl, hbw, ⟨b, o, a, c, rfl, hlc, hI⟩⟩
set_option maxRecDepth 100000 in
set_option maxHeartbeats 4000000 in
theorem without93_any (B : Book) (tb tq : Nat) (ta : Option Addr) (tc : Nat) (sb sq : Nat) (sa : Option Addr) (sc : Nat) (but : List Int) (n : Nat) (hbut : ∀ k : Nat, k < B.sounds.length → ((k : Int) ∈ but ↔ memI n k = true)) (w : World) (hT : SpansAt w.heap.size w tb tq ta B.tides) (hS : SoundsAt w.heap.size w sb sq sa B.sounds) (hl : B.sounds.length ≤ 100) :
    Calls Tryd.prog 93 #[bookVal B ta tc sa sc, i64 n] w (BookPost (lessS B but) w) := by
  have hb0 : Below w.heap.size w (((w.alloc (.cells (bookCells B ta tc sa sc) 30)).alloc (.cells zero30 30)).alloc (.cells zero30 30)) := (((Below.refl _ w).alloc (Nat.le_refl _) _).alloc (by simp <;> omega) _).alloc (by simp <;> omega) _
  have hx0 : ((w.alloc (.cells (bookCells B ta tc sa sc) 30)).alloc (.cells zero30 30)).heap[w.heap.size]? = some (.cells (bookCells B ta tc sa sc) 30 (0, 0)) := (Below.heap_alloc _ _ _ (by simp <;> omega)).trans (heap_alloc_new w _)
  have h1 : (((w.alloc (.cells (bookCells B ta tc sa sc) 30)).alloc (.cells zero30 30)).alloc (.cells zero30 30)).heap[w.heap.size]? = some (.cells (bookCells B ta tc sa sc) 30 (0, 0)) := (Below.heap_alloc _ _ _ (by simp <;> omega)).trans hx0
  have h2 : (((w.alloc (.cells (bookCells B ta tc sa sc) 30)).alloc (.cells zero30 30)).alloc (.cells zero30 30)).heap[w.heap.size + 1]? = some (.cells zero30 30 (0, 0)) := (Below.heap_alloc _ _ _ (by simp <;> omega)).trans (heap_new_at _ _ _ (by simp))
  have h3 : (((w.alloc (.cells (bookCells B ta tc sa sc) 30)).alloc (.cells zero30 30)).alloc (.cells zero30 30)).heap[w.heap.size + 2]? = some (.cells zero30 30 (0, 0)) := heap_new_at _ _ _ (by simp)
  have hst := SetAt.row (((w.alloc (.cells (bookCells B ta tc sa sc) 30)).alloc (.cells zero30 30)).alloc (.cells zero30 30)) (w.heap.size + 2) (bookCells B ta tc sa sc)
  have hy1 : ((((w.alloc (.cells (bookCells B ta tc sa sc) 30)).alloc (.cells zero30 30)).alloc (.cells zero30 30)).setRow (w.heap.size + 2) (bookCells B ta tc sa sc)).heap[w.heap.size + 2]? = some (.cells (bookCells B ta tc sa sc) 30 (0, 0)) := setRow_heap _ _ _ _ _ _ h3
  have hyc1 := cells_of hy1
  have hyf1 := frozen_of hy1
  have hyl1 := (Array.getElem?_eq_some_iff.1 hy1).1
  have hsz : (((w.alloc (.cells (bookCells B ta tc sa sc) 30)).alloc (.cells zero30 30)).alloc (.cells zero30 30)).heap.size = w.heap.size + 3 := by simp
  go_enter Tryd.func93, Tryd.ntmps93
  go_wp2_with (first | (refine ld30 rfl _ rfl _ _ rfl hx0 rfl ?_) | (refine st30 rfl _ _ rfl _ (bookCells B ta tc sa sc) zero30 rfl rfl h3 rfl rfl (by simp [Value.oneCell']) ?_))
  go_loopw [6] (fun i wr => ∃ (k : Nat) (v : Value), k ≤ B.sounds.length ∧ i = .int .i64 k ∧ w.heap.size + 3 ≤ wr.heap.size ∧ Below w.heap.size w wr ∧ wr.heap[w.heap.size]? = some (.cells (bookCells B ta tc sa sc) 30 (0, 0)) ∧ wr.heap[w.heap.size + 1]? = some (.cells zero30 30 (0, 0)) ∧ wr.heap[w.heap.size + 2]? = some (.cells (withV B ta tc v) 30 (0, 0)) ∧ wr.ownsRow (w.heap.size + 3) 70 3 v (dropS B.sounds but k).length (flatS (dropS B.sounds but k))) (fun i _ => B.sounds.length - (intOf i).toNat)
  case atStart =>
    exact ⟨0, .slice none 0 0, Nat.zero_le _, rfl, by simp, (hst.below (Nat.le_add_right _ 2) hb0).setCell (p := ⟨w.heap.size + 2, 13, none⟩) (by show w.heap.size ≤ w.heap.size + 2; omega) _, (Below.heap_setCell _ _ _ _ (by show w.heap.size ≠ w.heap.size + 2; omega)).trans ((hst.other _ (by omega)).trans h1), (Below.heap_setCell _ _ _ _ (by show w.heap.size + 1 ≠ w.heap.size + 2; omega)).trans ((hst.other _ (by omega)).trans h2), set_book' 13 hy1 _, World.ownsRow_nil _ _ _ _⟩
  case round =>
    clear hx0 h1 h2 h3 hst hy1 hyc1 hyf1 hyl1 hsz hb0
    obtain ⟨k, v, hk, rfl, hsz, hbw, hx, hz, hy, hown⟩ := hrel
    have hxc := cells_of hx
    have hxl := (Array.getElem?_eq_some_iff.1 hx).1
    by_cases hlt : k < B.sounds.length
    · have hlt' : (k : Int) < (B.sounds.length : Int) := by omega
      have hat := memX_any n k wr
      have hsucc := Lib.hid (dropS_succ B.sounds but k hlt)
      have hmem := hbut k hlt
      by_cases hin : (k : Int) ∈ but
      · have hd : memI n k = true := hmem.1 hin
        have hs2 : Hid (dropS B.sounds but (k + 1) = dropS B.sounds but k) := by
          show _ = _
          rw [hsucc.out, if_pos hin, List.append_nil]
        clear hmem hin
        go_wp2_with (go_at_call 82; refine hat.mono ?_; rintro e w2 ⟨rfl, rfl⟩; rw [hd])
        go_roundw
        case rel => exact ⟨k + 1, v, by omega, by go_num, hsz, hbw, hx, hz, hy, by rw [hs2.out]; exact hown⟩
        case measure => simp [intOf]; omega
      · have hd : memI n k = false := by
          cases h : memI n k
          · rfl
          · exact absurd (hmem.2 h) hin
        have hs2 : Hid (dropS B.sounds but (k + 1) = dropS B.sounds but k ++ [B.sounds[k]]) := by
          show _ = _
          rw [hsucc.out, if_neg hin]
        clear hmem hin
        have hdl := dropS_len B.sounds but k
        have hSw := hS.same (Same.of_below hbw)
        have hi28 : ∀ W, (Instr.indexAt 28 (.slice sa B.sounds.length sc) (.int .i64 (k : Int))).run Tryd.prog W = .ok (.pointer (some ⟨sb, sq + k * 3, none⟩)) W := fun W => idx28 W (hSw.at_ (ne_nil_of_lt hlt)) hlt
        go_wp2_with (go_at_call 82; refine hat.mono ?_; rintro e w2 ⟨rfl, rfl⟩; rw [hd])
        refine rj_region rdWo pureWo usWo kpWo (gWo (w.heap.size + 3) w.heap.size (w.heap.size + 2) sb sq (withV B ta tc v) sa B.sounds.length sc k v (dropS B.sounds but k) B.sounds[k]) (RY (w.heap.size + 3) (w.heap.size + 2) 13) (SWo (w.heap.size + 2)) (jWo (w.heap.size + 3) (w.heap.size + 2) B ta tc v (dropS B.sounds but k)) (by kernel_rfl) (by kernel_rfl) (by kernel_rfl) ?_ (fun n => RY.drawn _ _ _ _ n) (RY.refl _ _ _) (fun i A => by unfold SWo; split <;> first | exact Below.refl _ _ | rfl | trivial) (fun _ _ _ => RY.trans) ?_ ?_ ?_ ?_
        · intro tk nd htk
          match tk, htk with
          | 8, _ => exact ownsRow_below hown (BR.drawn _ _)
          | 10, _ => exact hy
          | 0, _ => trivial
          | 1, _ => trivial
          | 2, _ => trivial
          | 3, _ => trivial
          | 4, _ => trivial
          | 5, _ => trivial
          | 6, _ => trivial
          | 7, _ => trivial
          | 9, _ => trivial
          | _ + 11, htk => exact absurd htk (by simp)
        · intro kk i hk hi hn vs wA wB hG hR hS'
          match kk, hk, hn, hG with
          | 0, _, _, hG => exact hG
          | 1, _, _, hG => exact hG
          | 2, _, _, hG => exact hG
          | 3, _, _, hG => exact hG
          | 4, _, _, hG => exact hG
          | 5, _, _, hG => exact hG
          | 6, _, _, hG => exact hG
          | 7, _, hn, _ =>
            match i, hi, hn with
            | 0, _, hn => exact absurd (show false = true from hn) (by decide)
            | 1, _, hn => exact absurd (show false = true from hn) (by decide)
            | 2, _, hn => exact absurd (show false = true from hn) (by decide)
            | 3, _, hn => exact absurd (show false = true from hn) (by decide)
            | 4, _, hn => exact absurd (show false = true from hn) (by decide)
            | 5, _, hn => exact absurd (show false = true from hn) (by decide)
            | 6, _, hn => exact absurd (show false = true from hn) (by decide)
            | 7, _, hn => exact absurd (show false = true from hn) (by decide)
            | 8, _, hn => exact absurd (show false = true from hn) (by decide)
            | 9, _, hn => exact absurd (show false = true from hn) (by decide)
            | 10, _, hn => exact absurd (show false = true from hn) (by decide)
            | _ + 11, hi, _ => exact absurd hi (by simp)
          | 8, _, hn, _ =>
            match i, hi, hn with
            | 0, _, hn => exact absurd (show false = true from hn) (by decide)
            | 1, _, hn => exact absurd (show false = true from hn) (by decide)
            | 2, _, hn => exact absurd (show false = true from hn) (by decide)
            | 3, _, hn => exact absurd (show false = true from hn) (by decide)
            | 4, _, hn => exact absurd (show false = true from hn) (by decide)
            | 5, _, hn => exact absurd (show false = true from hn) (by decide)
            | 6, _, hn => exact absurd (show false = true from hn) (by decide)
            | 7, _, hn => exact absurd (show false = true from hn) (by decide)
            | 8, _, hn => exact absurd (show false = true from hn) (by decide)
            | 9, _, hn => exact absurd (show false = true from hn) (by decide)
            | 10, _, hn => exact absurd (show false = true from hn) (by decide)
            | _ + 11, hi, _ => exact absurd hi (by simp)
          | 9, _, _, hG => exact hG
          | 10, _, hn, _ =>
            match i, hi, hn with
            | 0, _, hn => exact absurd (show false = true from hn) (by decide)
            | 1, _, hn => exact absurd (show false = true from hn) (by decide)
            | 2, _, hn => exact absurd (show false = true from hn) (by decide)
            | 3, _, hn => exact absurd (show false = true from hn) (by decide)
            | 4, _, hn => exact absurd (show false = true from hn) (by decide)
            | 5, _, hn => exact absurd (show false = true from hn) (by decide)
            | 6, _, hn => exact absurd (show false = true from hn) (by decide)
            | 7, _, hn => exact absurd (show false = true from hn) (by decide)
            | 8, _, hn => exact absurd (show false = true from hn) (by decide)
            | 9, _, hn => exact absurd (show false = true from hn) (by decide)
            | 10, _, hn => exact absurd (show false = true from hn) (by decide)
            | _ + 11, hi, _ => exact absurd hi (by simp)
          | _ + 11, hk, _, _ => exact absurd hk (by simp)
        · intro tk i htk hi hn wA wB hJ hR hS'
          match tk, htk, hn, hJ with
          | 8, _, hn, hJ =>
            match i, hi, hn, hS' with
            | 0, _, hn, _ => exact absurd (show false = true from hn) (by decide)
            | 1, _, hn, _ => exact absurd (show false = true from hn) (by decide)
            | 2, _, hn, _ => exact absurd (show false = true from hn) (by decide)
            | 3, _, hn, _ => exact absurd (show false = true from hn) (by decide)
            | 4, _, hn, _ => exact absurd (show false = true from hn) (by decide)
            | 5, _, hn, _ => exact absurd (show false = true from hn) (by decide)
            | 6, _, hn, _ => exact absurd (show false = true from hn) (by decide)
            | 7, _, _, hS' => exact ownsRow_below hJ hS'
            | 8, _, hn, _ => exact absurd (show false = true from hn) (by decide)
            | 9, _, hn, _ => exact absurd (show false = true from hn) (by decide)
            | 10, _, hn, _ => exact absurd (show false = true from hn) (by decide)
            | _ + 11, hi, _, _ => exact absurd hi (by simp)
          | 10, _, hn, hJ =>
            match i, hi, hn, hS' with
            | 0, _, hn, _ => exact absurd (show false = true from hn) (by decide)
            | 1, _, hn, _ => exact absurd (show false = true from hn) (by decide)
            | 2, _, hn, _ => exact absurd (show false = true from hn) (by decide)
            | 3, _, hn, _ => exact absurd (show false = true from hn) (by decide)
            | 4, _, hn, _ => exact absurd (show false = true from hn) (by decide)
            | 5, _, hn, _ => exact absurd (show false = true from hn) (by decide)
            | 6, _, hn, _ => exact absurd (show false = true from hn) (by decide)
            | 7, _, _, hS' => exact (Below.block hS' _ (Array.getElem?_eq_some_iff.1 hJ).1).trans hJ
            | 8, _, _, hS' => exact Eq.trans hS' hJ
            | 9, _, hn, _ => exact absurd (show false = true from hn) (by decide)
            | 10, _, hn, _ => exact absurd (show false = true from hn) (by decide)
            | _ + 11, hi, _, _ => exact absurd hi (by simp)
          | 0, _, _, _ => trivial
          | 1, _, _, _ => trivial
          | 2, _, _, _ => trivial
          | 3, _, _, _ => trivial
          | 4, _, _, _ => trivial
          | 5, _, _, _ => trivial
          | 6, _, _, _ => trivial
          | 7, _, _, _ => trivial
          | 9, _, _, _ => trivial
          | _ + 11, htk, _, _ => exact absurd htk (by simp)
        · intro i op ho act wA hR hF hD hJ
          have sz : act.tmps.size = 31 := hF.size
          have hzA : w.heap.size + 3 ≤ wA.heap.size := Nat.le_trans hsz hR.size
          have hxA := (hR.old w.heap.size (by omega) (by omega)).trans hx
          have hSA := hS.same (w' := wA) ⟨by omega, fun k hk => (hR.old k (by omega) (by omega)).trans (hbw.block k hk)⟩
          have hxc := cells_of hxA
          obtain ⟨i0, hi, hz0, hz1, hzz⟩ := info_parts info70
          have hsl := hS.len
          match i, ho, hD, hJ with
          | 0, ho, hD, hJ =>
            cases ho
            have e5 := slot_tmps (show slotOf act 5 = .pointer (some ⟨w.heap.size + 2, 0, none⟩) from hF.slot 5 (by kernel_rfl))
            exact rsw_val (wanted_none rfl) (.pointer (some ⟨w.heap.size + 2, 13, none⟩)) (by simp [go_sem, e5]) (RY.refl _ _ _ _) trivial (congrArg (fun v => [v]) (slotOf_same act 20 _ (by omega)))
          | 1, ho, hD, hJ =>
            cases ho
            have e20 := slot_tmps (List.cons.inj (hD 0 (by decide))).1
            have hyA : wA.heap[w.heap.size + 2]? = _ := hJ 10 _ rfl (.inr (by decide))
            have hyc := cells_of hyA
            exact rsw_val (wanted_none rfl) v (by simp [go_sem, e20, hyc]) (RY.refl _ _ _ _) trivial (congrArg (fun v => [v]) (slotOf_same act 21 _ (by omega)))
          | 2, ho, hD, hJ =>
            cases ho
            have e2 := slot_tmps (show slotOf act 2 = .pointer (some ⟨w.heap.size, 0, none⟩) from hF.slot 2 (by kernel_rfl))
            exact rsw_val (wanted_none rfl) (.pointer (some ⟨w.heap.size, 13, none⟩)) (by simp [go_sem, e2]) (RY.refl _ _ _ _) trivial (congrArg (fun v => [v]) (slotOf_same act 22 _ (by omega)))
          | 3, ho, hD, hJ =>
            cases ho
            have e22 := slot_tmps (List.cons.inj (hD 2 (by decide))).1
            exact rsw_val (wanted_none rfl) (.slice sa B.sounds.length sc) (by simp [go_sem, e22, hxc]) (RY.refl _ _ _ _) trivial (congrArg (fun v => [v]) (slotOf_same act 23 _ (by omega)))
          | 4, ho, hD, hJ =>
            cases ho
            have e6 := slot_tmps (show slotOf act 6 = i64 k from hF.slot 6 (by kernel_rfl))
            exact rsw_val (wanted_none rfl) (i64 k) (by simp [go_sem, e6]) (RY.refl _ _ _ _) trivial (congrArg (fun v => [v]) (slotOf_same act 24 _ (by omega)))
          | 5, ho, hD, hJ =>
            cases ho
            have e23 := slot_tmps (List.cons.inj (hD 3 (by decide))).1
            have e24 := slot_tmps (List.cons.inj (hD 4 (by decide))).1
            exact rsw_val (wanted_none rfl) (.pointer (some ⟨sb, sq + k * 3, none⟩)) (by simp [go_sem, e23, e24, hi28]) (RY.refl _ _ _ _) trivial (congrArg (fun v => [v]) (slotOf_same act 25 _ (by omega)))
          | 6, ho, hD, hJ =>
            cases ho
            have e25 := slot_tmps (List.cons.inj (hD 5 (by decide))).1
            have c1 := hSA.hour k hlt
            have c2 := hSA.shore k hlt
            have c3 := hSA.deep k hlt
            exact rsw_val (wanted_none rfl) (.agg #[i64 B.sounds[k].hour, i64 B.sounds[k].shore, i64 B.sounds[k].deep]) (by simp [go_sem, e25, c1, c2, c3]) (RY.refl _ _ _ _) trivial (congrArg (fun v => [v]) (slotOf_same act 26 _ (by omega)))
          | 7, ho, hD, hJ =>
            cases ho
            have e26 := slot_tmps (List.cons.inj (hD 6 (by decide))).1
            refine rsw_wp (wanted_none rfl) rfl (wp_of_run (v := .slice (some ⟨wA.heap.size, 0, none⟩) 1 1) (w' := wA.alloc (.cells #[i64 B.sounds[k].hour, i64 B.sounds[k].shore, i64 B.sounds[k].deep] 70)) (by simp [go_sem, e26]) ?_)
            exact ⟨_, rfl, RY.of_below hzA ((Below.refl _ _).alloc (Nat.le_refl _) _), (Below.refl _ _).alloc (Nat.le_refl _) _, _, congrArg (fun v => [v]) (slotOf_same act 27 _ (by omega)), hzA, heap_alloc_new _ _⟩
          | 8, ho, hD, hJ =>
            cases ho
            have d21 := hD 1 (by decide)
            have hownA : wA.ownsRow (w.heap.size + 3) 70 3 v _ _ := hJ 8 _ rfl (.inl rfl)
            obtain ⟨g, d27, _, hg⟩ := hD 7 (by decide)
            have hgc := cells_of hg
            have hnews : ∀ j u, [i64 B.sounds[k].hour, i64 B.sounds[k].shore, i64 B.sounds[k].deep][j]? = some u → wA.cell? ((⟨g, 0, none⟩ : Addr).add j) = some u := fun j u hu => by
              rw [addr_add, hgc]
              simpa using hu
            obtain ⟨v', w', hrun, r1, r2, _⟩ := run_append_own (P := Tryd.prog) wA (w.heap.size + 3) 28 28 70 i0 (.agg #[i64 0, i64 0, i64 0]) 3 24 Tryd.underlying28 hi hz0 hz1 hzz rfl (by decide) v (dropS B.sounds but k).length (flatS (dropS B.sounds but k)) hownA ⟨g, 0, none⟩ 1 1 [i64 B.sounds[k].hour, i64 B.sounds[k].shore, i64 B.sounds[k].deep] rfl hnews (by simp [Value.oneCell']) (by unfold maxLen; omega) (by omega) hzA
            refine rsw_wp (wanted_none rfl) rfl (wp_of_run (v := v') (w' := w') (ex_append _ _ 28 rfl ?_) ?_)
            · rw [show act.eval (.tmp 21) = _ from (List.cons.inj d21).1, show act.eval (.tmp 27) = _ from (List.cons.inj d27).1]
              exact hrun
            · exact ⟨_, rfl, RY.of_grown hzA (by omega) (fun k hk => (hownA.lt k hk).1) r2, r2.block _ (by omega) (fun e => by have := (hownA.lt _ e.symm).1; omega), _, congrArg (fun v => [v]) (slotOf_same act 28 _ (by omega)), by rw [flatS_snoc]; exact r1⟩
          | 9, ho, hD, hJ =>
            cases ho
            have e5 := slot_tmps (show slotOf act 5 = .pointer (some ⟨w.heap.size + 2, 0, none⟩) from hF.slot 5 (by kernel_rfl))
            exact rsw_val (wanted_none rfl) (.pointer (some ⟨w.heap.size + 2, 13, none⟩)) (by simp [go_sem, e5]) (RY.refl _ _ _ _) trivial (congrArg (fun v => [v]) (slotOf_same act 29 _ (by omega)))
          | 10, ho, hD, hJ =>
            cases ho
            obtain ⟨v', d28, hown'⟩ := hD 8 (by decide)
            have e28 := slot_tmps (List.cons.inj d28).1
            have e29 := slot_tmps (List.cons.inj (hD 9 (by decide))).1
            obtain ⟨c', hc', hcs, hcj⟩ := hR.book _ hy
            have hcc := cells_of hc'
            have hcf := frozen_of hc'
            have h13 : c'[13]? = some (c'[13]'(by rw [hcs]; exact (show 13 < 14 by decide))) := Array.getElem?_eq_getElem _
            obtain ⟨ao, cp, rfl⟩ := slice_of_row hown'
            refine rsw_wp (wanted_none rfl) rfl (wp_of_skip (w' := wA.setCell ⟨w.heap.size + 2, 13, none⟩ (.slice ao ((dropS B.sounds but k).length + 1) cp)) (by simp [go_sem, e28, e29, hcc, hcf, h13]) ?_)
            refine ⟨_, rfl, RY.set hc', trivial, _, ?_, ownsRow_keep (y := w.heap.size + 2) hown' (by omega) (fun k hk hky => Below.heap_setCell _ _ _ k hky)⟩
            rw [set_book' 13 hc' _, set_same hcs hcj]
          | _ + 11, ho, _, _ => cases ho
        · intro act wA hR hF hA
          obtain ⟨v', hc, hown'⟩ := hA 10 (by decide) rfl
          have f0 : slotOf act 0 = bookVal B ta tc sa sc := hF.slot 0 (by kernel_rfl)
          have f1 : slotOf act 1 = i64 n := hF.slot 1 (by kernel_rfl)
          have f2 : slotOf act 2 = .pointer (some ⟨w.heap.size, 0, none⟩) := hF.slot 2 (by kernel_rfl)
          have f3 : slotOf act 3 = undef := hF.slot 3 (by kernel_rfl)
          have f4 : slotOf act 4 = .pointer (some ⟨w.heap.size + 1, 0, none⟩) := hF.slot 4 (by kernel_rfl)
          have f5 : slotOf act 5 = .pointer (some ⟨w.heap.size + 2, 0, none⟩) := hF.slot 5 (by kernel_rfl)
          have f6 : slotOf act 6 = i64 k := hF.slot 6 (by kernel_rfl)
          have f7 : slotOf act 7 = .agg (bookCells B ta tc sa sc) := hF.slot 7 (by kernel_rfl)
          have f8 : slotOf act 8 = .pointer (some ⟨w.heap.size + 2, 13, none⟩) := hF.slot 8 (by kernel_rfl)
          have f30 : slotOf act 30 = undef := hF.slot 30 (by kernel_rfl)
          rw [act_eta act 31 hF.size hF.defers]
          simp only [show List.range 31 = [0, 1, 2, 3, 4, 5, 6, 7, 8, 9, 10, 11, 12, 13, 14, 15, 16, 17, 18, 19, 20, 21, 22, 23, 24, 25, 26, 27, 28, 29, 30] from rfl, List.map_cons, List.map_nil, f0, f1, f2, f3, f4, f5, f6, f7, f8, f30]
          clear hA hF f0 f1 f2 f3 f4 f5 f6 f7 f8 f30
          have hbA : Below w.heap.size w wA := ⟨hR.os.trans hbw.os, hR.tape.trans hbw.tape, hR.output.trans hbw.output, Nat.le_trans hbw.size hR.size, fun k hk => (hR.old k (by omega) (by omega)).trans (hbw.block k hk)⟩
          have hxA := (hR.old w.heap.size (by omega) (by omega)).trans hx
          have hzA := (hR.old (w.heap.size + 1) (by omega) (by omega)).trans hz
          have hsA : w.heap.size + 3 ≤ wA.heap.size := Nat.le_trans hsz hR.size
          clear hR hsz hbw hx hz hy hown
          go_wp2_with fail
          go_roundw
          case rel => first | exact ⟨k + 1, v', by omega, by go_num, hsA, hbA, hxA, hzA, hc, by rw [hs2.out]; simpa using hown'⟩ | ((repeat apply Exists.intro); refine ⟨?_, rfl⟩; exact ⟨k + 1, v', by omega, by go_num, hsA, hbA, hxA, hzA, hc, by rw [hs2.out]; simpa using hown'⟩)
          case measure => simp [intOf]; omega
    · have hlt' : ¬ (k : Int) < (B.sounds.length : Int) := by omega
      obtain rfl : k = B.sounds.length := by omega
      have hdl := dropS_len B.sounds but B.sounds.length
      obtain ⟨g, a, c, rfl, hSn⟩ := sounds_row hown (by omega)
      have hset := SetAt.row wr (w.heap.size + 1) (withV B ta tc (.slice a (dropS B.sounds but B.sounds.length).length c))
      have hbF := hset.below (Nat.le_add_right _ 1) hbw
      have hTF := (hT.same (Same.of_below hbF)).up hbF.size
      have hne : dropS B.sounds but B.sounds.length ≠ [] → g ≠ w.heap.size + 1 := fun h0 e => by
        have ha := hSn.at_ h0
        subst ha
        have := (hown.lt g rfl).1
        omega
      have hSF := sound_set (z := w.heap.size + 1) (cs := withV B ta tc (.slice a (dropS B.sounds but B.sounds.length).length c)) hSn hne
      clear hown hSn hbw hsz hdl
      go_wp2_with (first | (refine ld30 rfl _ rfl _ _ rfl hy rfl ?_) | (refine st30 rfl _ _ rfl _ (withV B ta tc (.slice a (dropS B.sounds but B.sounds.length).length c)) zero30 rfl rfl hz rfl rfl (by simp [Value.oneCell']) ?_))
      refine bodyPost_ret (results_cell_row rfl _ _ (w.heap.size + 1) 30 _ (0, 0) _ rfl (setRow_heap _ _ _ _ _ _ hz) Tryd.underlying30 rfl (by rw [size30]; rfl)) rfl ?_
      exact ⟨_, rfl, hbF, tb, tq, ta, tc, g, 0, a, c, rfl, hTF, hSF⟩
theorem without93_v {B : Book} {v : Value} {n : Nat} {w : World} (hB : BookV w v B) (hV : Vld B) (hn : n < 64) : Calls Tryd.prog 93 #[v, i64 n] w (BookPost (lessS B (setL n B.sounds.length)) w) := by
  have h6 := hV.s6
  obtain ⟨tb, tq, ta, tc, sb, sq, sa, sc, rfl, hT, hS⟩ := hB
  exact without93_any B tb tq ta tc sb sq sa sc _ n (fun k hk => by rw [mem_setL, memI_test n hn k (by omega)]; exact ⟨fun h => h.2, fun h => ⟨hk, h⟩⟩) w hT hS (by omega)
end Go.Proofs.YtkbmpkdflgimmaaDoor
