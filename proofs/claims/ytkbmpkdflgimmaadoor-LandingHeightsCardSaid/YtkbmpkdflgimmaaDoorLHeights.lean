/- LandingHeights answers true of every book and of all numbers. (Printed by genlheights.py.) -/
import Derived.Test.YtkbmpkdflgimmaaDoorRef9
namespace Go.Proofs.YtkbmpkdflgimmaaDoor
open Go.RowKit Go.Shelf

theorem box24h (w : World) (a b : Int) : Below w.heap.size w (w.alloc (.cells #[i64 a, i64 b] 24)) ∧ (w.alloc (.cells #[i64 a, i64 b] 24)).heap[w.heap.size]? = some (.cells #[i64 a, i64 b] 24 (0, 0)) :=
  ⟨(Below.refl _ w).alloc (Nat.le_refl _) _, heap_alloc_new w _⟩
theorem set24 {W : World} {p : Nat} {a b : Int} (h : W.heap[p]? = some (.cells #[i64 a, i64 b] 24 (0, 0))) (u v : Int) :
    ((W.setCell ⟨p, 0, none⟩ (i64 u)).setCell ⟨p, 1, none⟩ (i64 v)).heap[p]? = some (.cells #[i64 u, i64 v] 24 (0, 0)) ∧ (∀ k, k ≠ p → ((W.setCell ⟨p, 0, none⟩ (i64 u)).setCell ⟨p, 1, none⟩ (i64 v)).heap[k]? = W.heap[k]?) ∧
    ∀ m w, m ≤ p → Below m w W → Below m w ((W.setCell ⟨p, 0, none⟩ (i64 u)).setCell ⟨p, 1, none⟩ (i64 v)) := by
  refine ⟨set_two1 (set_two0 h (i64 u)) (i64 v), fun k hk => ?_, fun m w hm hb => ?_⟩
  · exact (Below.heap_setCell _ ⟨p, 1, none⟩ _ k hk).trans (Below.heap_setCell _ ⟨p, 0, none⟩ _ k hk)
  · exact (hb.setCell (p := ⟨p, 0, none⟩) hm _).setCell (p := ⟨p, 1, none⟩) hm _
def rdLh3 (i : Nat) : List Nat := match i with
  | 0 => [23] | 1 => [24] | 2 => [25] | 3 => [26] | 4 => [27] | 5 => [28] | 6 => [29] | 7 => [30] | 8 => [31] | 9 => [32] | 10 => [33] | 11 => [34] | 12 => [35] | 13 => [36] | 14 => [37] | _ => []
def pureLh3 (i : Nat) : Bool := match i with
  | 10 => false | 12 => false | _ => true
def gLh3 (r : Bool) (ri : Int) (B : Book) (ta : Option Addr) (tc : Nat) (sa : Option Addr) (sc : Nat) (ta' : Option Addr) (tc' : Nat) (sa' : Option Addr) (sc' : Nat) (i : Nat) (vs : List Value) (_ : World) : Prop := match i with
  | 0 => vs = [.bool r]
  | 1 => vs = [.bool r]
  | 2 => vs = [.bool false]
  | 3 => vs = [.bool false]
  | 4 => vs = [i64 ri]
  | 5 => vs = [i64 ri]
  | 6 => vs = [.bool false]
  | 7 => vs = [.bool false]
  | 8 => vs = [.bool false]
  | 9 => vs = [.agg (bookCells B ta tc sa sc)]
  | 10 => vs = [i64 (checkE B)]
  | 11 => vs = [.agg (bookCells B ta' tc' sa' sc')]
  | 12 => vs = [i64 (checkE B)]
  | 13 => vs = [.bool false]
  | 14 => vs = [.bool false]
  | _ => True
set_option maxRecDepth 100000 in
set_option maxHeartbeats 8000000 in
theorem lHeights_any (B : Book) (ta : Option Addr) (tc : Nat) (sa : Option Addr) (sc : Nat) (ta' : Option Addr) (tc' : Nat) (sa' : Option Addr) (sc' : Nat) (n0 n1 : Int) (w : World) (hG : GA w) (hBo : BookV w (bookVal B ta tc sa sc) B) (hBb : BookV w (bookVal B ta' tc' sa' sc') B) :
    Calls Tryd.prog 16 #[bookVal B ta tc sa sc, bookVal B ta' tc' sa' sc', .agg #[i64 n0, i64 n1]] w (MoorPost w) := by
  have ha0 : Below w.heap.size w (((w.alloc (.cells (bookCells B ta tc sa sc) 30)).alloc (.cells (bookCells B ta' tc' sa' sc') 30)).alloc (.cells #[i64 n0, i64 n1] 31)) := (((Below.refl _ w).alloc (Nat.le_refl _) _).alloc (by simp <;> omega) _).alloc (by simp <;> omega) _
  have hx0 : (((w.alloc (.cells (bookCells B ta tc sa sc) 30)).alloc (.cells (bookCells B ta' tc' sa' sc') 30)).alloc (.cells #[i64 n0, i64 n1] 31)).heap[w.heap.size]? = some (.cells (bookCells B ta tc sa sc) 30 (0, 0)) := (Below.heap_alloc _ _ _ (by simp <;> omega)).trans ((Below.heap_alloc _ _ _ (by simp <;> omega)).trans (heap_alloc_new w _))
  have hy0 : (((w.alloc (.cells (bookCells B ta tc sa sc) 30)).alloc (.cells (bookCells B ta' tc' sa' sc') 30)).alloc (.cells #[i64 n0, i64 n1] 31)).heap[w.heap.size + 1]? = some (.cells (bookCells B ta' tc' sa' sc') 30 (0, 0)) := (Below.heap_alloc _ _ _ (by simp <;> omega)).trans (heap_new_at _ _ _ (by simp))
  have hn0 : (((w.alloc (.cells (bookCells B ta tc sa sc) 30)).alloc (.cells (bookCells B ta' tc' sa' sc') 30)).alloc (.cells #[i64 n0, i64 n1] 31)).heap[w.heap.size + 2]? = some (.cells #[i64 n0, i64 n1] 31 (0, 0)) := heap_new_at _ _ _ (by simp)
  have hG0 := hG.below ha0
  obtain ⟨r, ri, hr⟩ : ∃ r ri, Hid (rightR B = (r, ri)) := ⟨_, _, Lib.hid rfl⟩
  obtain ⟨a, b, e1, hh⟩ : ∃ a b e, Hid (heightR B n0 = (a, b, e)) := ⟨_, _, _, Lib.hid rfl⟩
  obtain ⟨u, v, e2, hf⟩ : ∃ a b e, Hid (floorR B n1 = (a, b, e)) := ⟨_, _, _, Lib.hid rfl⟩
  have q1 := fun W => eqS24 9998 a b W
  have q2 := fun W => eqS24 9998 u v W
  go_enter Tryd.func16, Tryd.ntmps16
  go_wp2_with (refine ld30 rfl _ rfl _ _ rfl hx0 rfl ?_)
  refine (right_v hG0 (hBo.below ha0)).mono ?_
  rintro e w1 ⟨rfl, hb1⟩
  rw [hr.out]
  have hx1 := (hb1.block _ (Array.getElem?_eq_some_iff.1 hx0).1).trans hx0
  have hy1 := (hb1.block _ (Array.getElem?_eq_some_iff.1 hy0).1).trans hy0
  have hn1 := (hb1.block _ (Array.getElem?_eq_some_iff.1 hn0).1).trans hn0
  have hG1 := hG0.below hb1
  have ha1 := ha0.trans (hb1.mono ha0.size)
  clear hx0 hy0 hn0 hG0 ha0
  clear hb1
  go_wp2_with (refine ld30 rfl _ rfl _ _ rfl hy1 rfl ?_)
  refine (rightRef_v (hBb.below ha1)).mono ?_
  rintro e w2 ⟨rfl, hb2⟩
  rw [hr.out]
  have hx2 := (hb2.block _ (Array.getElem?_eq_some_iff.1 hx1).1).trans hx1
  have hy2 := (hb2.block _ (Array.getElem?_eq_some_iff.1 hy1).1).trans hy1
  have hn2 := (hb2.block _ (Array.getElem?_eq_some_iff.1 hn1).1).trans hn1
  have hG2 := hG1.below hb2
  have ha2 := ha1.trans (hb2.mono ha1.size)
  clear hx1 hy1 hn1 hG1 ha1
  clear hb2
  have hxl2 := (Array.getElem?_eq_some_iff.1 hx2).1
  have hyl2 := (Array.getElem?_eq_some_iff.1 hy2).1
  go_wp2_with fail
  refine rg_region rdLh3 pureLh3 (gLh3 r ri B ta tc sa sc ta' tc' sa' sc') BR (by kernel_rfl) (by kernel_rfl) (fun n => BR.drawn _ n) BR.refl (fun _ _ _ => BR.trans) ?_ ?_ ?_
  · intro i hi vs wA wB hG hR
    match i, hi, hG with
    | 0, _, hG => exact hG
    | 1, _, hG => exact hG
    | 2, _, hG => exact hG
    | 3, _, hG => exact hG
    | 4, _, hG => exact hG
    | 5, _, hG => exact hG
    | 6, _, hG => exact hG
    | 7, _, hG => exact hG
    | 8, _, hG => exact hG
    | 9, _, hG => exact hG
    | 10, _, hG => exact hG
    | 11, _, hG => exact hG
    | 12, _, hG => exact hG
    | 13, _, hG => exact hG
    | 14, _, hG => exact hG
    | _ + 15, _, _ => trivial
  · intro i op ho act wA hR hF hD
    have sz : act.tmps.size = 82 := hF.size
    match i, ho, hD with
    | 0, ho, hD =>
      cases ho
      have e7 := slot_tmps (show slotOf act 7 = .bool r from hF.slot 7 (by kernel_rfl))
      refine rgw_val (wanted_none rfl) (.bool r) (by simp [go_sem, e7]) (BR.refl _) ?_
      exact congrArg (fun v => [v]) (slotOf_same act 23 _ (by omega))
    | 1, ho, hD =>
      cases ho
      have e9 := slot_tmps (show slotOf act 9 = .bool r from hF.slot 9 (by kernel_rfl))
      refine rgw_val (wanted_none rfl) (.bool r) (by simp [go_sem, e9]) (BR.refl _) ?_
      exact congrArg (fun v => [v]) (slotOf_same act 24 _ (by omega))
    | 2, ho, hD =>
      cases ho
      have e23 := slot_tmps (List.cons.inj (hD 0 (by decide))).1
      have e24 := slot_tmps (List.cons.inj (hD 1 (by decide))).1
      refine rgw_val (wanted_none rfl) (.bool false) (by simp [go_sem, e23, e24]) (BR.refl _) ?_
      exact congrArg (fun v => [v]) (slotOf_same act 25 _ (by omega))
    | 3, ho, hD =>
      cases ho
      have e25 := slot_tmps (List.cons.inj (hD 2 (by decide))).1
      refine rgw_val (wanted_none rfl) (.bool false) (by simp [go_sem, e25]) (BR.refl _) ?_
      exact congrArg (fun v => [v]) (slotOf_same act 26 _ (by omega))
    | 4, ho, hD =>
      cases ho
      have dj : slotOf act 26 = .bool false := (List.cons.inj (hD 3 (by decide))).1
      have e8 := slot_tmps (show slotOf act 8 = i64 ri from hF.slot 8 (by kernel_rfl))
      refine rgw_val (by rw [wanted_of (d := 26) rfl rfl dj]; rfl) (i64 ri) (by simp [go_sem, e8]) (BR.refl _) ?_
      exact congrArg (fun v => [v]) (slotOf_same act 27 _ (by omega))
    | 5, ho, hD =>
      cases ho
      have dj : slotOf act 26 = .bool false := (List.cons.inj (hD 3 (by decide))).1
      have e10 := slot_tmps (show slotOf act 10 = i64 ri from hF.slot 10 (by kernel_rfl))
      refine rgw_val (by rw [wanted_of (d := 26) rfl rfl dj]; rfl) (i64 ri) (by simp [go_sem, e10]) (BR.refl _) ?_
      exact congrArg (fun v => [v]) (slotOf_same act 28 _ (by omega))
    | 6, ho, hD =>
      cases ho
      have dj : slotOf act 26 = .bool false := (List.cons.inj (hD 3 (by decide))).1
      have e27 := slot_tmps (List.cons.inj (hD 4 (by decide))).1
      have e28 := slot_tmps (List.cons.inj (hD 5 (by decide))).1
      refine rgw_val (by rw [wanted_of (d := 26) rfl rfl dj]; rfl) (.bool false) (by simp [go_sem, e27, e28]) (BR.refl _) ?_
      exact congrArg (fun v => [v]) (slotOf_same act 29 _ (by omega))
    | 7, ho, hD =>
      cases ho
      have e26 := slot_tmps (List.cons.inj (hD 3 (by decide))).1
      have e29 := slot_tmps (List.cons.inj (hD 6 (by decide))).1
      refine rgw_val (wanted_none rfl) (.bool false) (by simp [go_sem, e26, e29]) (BR.refl _) ?_
      exact congrArg (fun v => [v]) (slotOf_same act 30 _ (by omega))
    | 8, ho, hD =>
      cases ho
      have e30 := slot_tmps (List.cons.inj (hD 7 (by decide))).1
      refine rgw_val (wanted_none rfl) (.bool false) (by simp [go_sem, e30]) (BR.refl _) ?_
      exact congrArg (fun v => [v]) (slotOf_same act 31 _ (by omega))
    | 9, ho, hD =>
      cases ho
      have dj : slotOf act 31 = .bool false := (List.cons.inj (hD 8 (by decide))).1
      have e3 := slot_tmps (show slotOf act 3 = .pointer (some ⟨w.heap.size, 0, none⟩) from hF.slot 3 (by kernel_rfl))
      refine rgw_val (by rw [wanted_of (d := 31) rfl rfl dj]; rfl) (.agg (bookCells B ta tc sa sc)) (by exact ex_load_row (a := act) 30 (.tmp 3) rfl (w.heap.size) (show slotOf act 3 = .pointer (some ⟨w.heap.size, 0, none⟩) from hF.slot 3 (by kernel_rfl)) 30 _ (0, 0) _ ((Below.block hR _ hxl2).trans hx2) Tryd.underlying30 rfl (by rw [size30]; rfl)) (BR.refl _) ?_
      exact congrArg (fun v => [v]) (slotOf_same act 32 _ (by omega))
    | 10, ho, hD =>
      cases ho
      have dj : slotOf act 31 = .bool false := (List.cons.inj (hD 8 (by decide))).1
      have e32 := slot_tmps (List.cons.inj (hD 9 (by decide))).1
      refine rgw_call (by rw [wanted_of (d := 31) rfl rfl dj]; rfl) 43 #[bookVal B ta tc sa sc] (by simp [go_sem, e32]) rfl ?_
      refine (check_v (hBo.below (ha2.trans (Below.mono hR ha2.size)))).mono ?_
      rintro e wB ⟨rfl, hb⟩
      exact ⟨_, rfl, hb, congrArg (fun v => [v]) (slotOf_same act 33 _ (by omega))⟩
    | 11, ho, hD =>
      cases ho
      have dj : slotOf act 31 = .bool false := (List.cons.inj (hD 8 (by decide))).1
      have e4 := slot_tmps (show slotOf act 4 = .pointer (some ⟨w.heap.size + 1, 0, none⟩) from hF.slot 4 (by kernel_rfl))
      refine rgw_val (by rw [wanted_of (d := 31) rfl rfl dj]; rfl) (.agg (bookCells B ta' tc' sa' sc')) (by exact ex_load_row (a := act) 30 (.tmp 4) rfl (w.heap.size + 1) (show slotOf act 4 = .pointer (some ⟨w.heap.size + 1, 0, none⟩) from hF.slot 4 (by kernel_rfl)) 30 _ (0, 0) _ ((Below.block hR _ hyl2).trans hy2) Tryd.underlying30 rfl (by rw [size30]; rfl)) (BR.refl _) ?_
      exact congrArg (fun v => [v]) (slotOf_same act 34 _ (by omega))
    | 12, ho, hD =>
      cases ho
      have dj : slotOf act 31 = .bool false := (List.cons.inj (hD 8 (by decide))).1
      have e34 := slot_tmps (List.cons.inj (hD 11 (by decide))).1
      refine rgw_call (by rw [wanted_of (d := 31) rfl rfl dj]; rfl) 58 #[bookVal B ta' tc' sa' sc'] (by simp [go_sem, e34]) rfl ?_
      refine (checkR_v (hBb.below (ha2.trans (Below.mono hR ha2.size)))).mono ?_
      rintro e wB ⟨rfl, hb⟩
      exact ⟨_, rfl, hb, congrArg (fun v => [v]) (slotOf_same act 35 _ (by omega))⟩
    | 13, ho, hD =>
      cases ho
      have dj : slotOf act 31 = .bool false := (List.cons.inj (hD 8 (by decide))).1
      have e33 := slot_tmps (List.cons.inj (hD 10 (by decide))).1
      have e35 := slot_tmps (List.cons.inj (hD 12 (by decide))).1
      refine rgw_val (by rw [wanted_of (d := 31) rfl rfl dj]; rfl) (.bool false) (by simp [go_sem, e33, e35]) (BR.refl _) ?_
      exact congrArg (fun v => [v]) (slotOf_same act 36 _ (by omega))
    | 14, ho, hD =>
      cases ho
      have e31 := slot_tmps (List.cons.inj (hD 8 (by decide))).1
      have e36 := slot_tmps (List.cons.inj (hD 13 (by decide))).1
      refine rgw_val (wanted_none rfl) (.bool false) (by simp [go_sem, e31, e36]) (BR.refl _) ?_
      exact congrArg (fun v => [v]) (slotOf_same act 37 _ (by omega))
    | _ + 15, ho, _ => cases ho
  · intro act wA hR hF hA
    have f3 : slotOf act 3 = .pointer (some ⟨w.heap.size, 0, none⟩) := hF.slot 3 (by kernel_rfl)
    have f4 : slotOf act 4 = .pointer (some ⟨w.heap.size + 1, 0, none⟩) := hF.slot 4 (by kernel_rfl)
    have f5 : slotOf act 5 = .pointer (some ⟨w.heap.size + 2, 0, none⟩) := hF.slot 5 (by kernel_rfl)
    have f6 : slotOf act 6 = .bool false := hF.slot 6 (by kernel_rfl)
    have f7 : slotOf act 7 = .bool r := hF.slot 7 (by kernel_rfl)
    have f8 : slotOf act 8 = i64 ri := hF.slot 8 (by kernel_rfl)
    have f9 : slotOf act 9 = .bool r := hF.slot 9 (by kernel_rfl)
    have f10 : slotOf act 10 = i64 ri := hF.slot 10 (by kernel_rfl)
    have f23 : slotOf act 23 = .bool r := (List.cons.inj (hA 0 (by decide))).1
    have f24 : slotOf act 24 = .bool r := (List.cons.inj (hA 1 (by decide))).1
    have f25 : slotOf act 25 = .bool false := (List.cons.inj (hA 2 (by decide))).1
    have f26 : slotOf act 26 = .bool false := (List.cons.inj (hA 3 (by decide))).1
    have f27 : slotOf act 27 = i64 ri := (List.cons.inj (hA 4 (by decide))).1
    have f28 : slotOf act 28 = i64 ri := (List.cons.inj (hA 5 (by decide))).1
    have f29 : slotOf act 29 = .bool false := (List.cons.inj (hA 6 (by decide))).1
    have f30 : slotOf act 30 = .bool false := (List.cons.inj (hA 7 (by decide))).1
    have f31 : slotOf act 31 = .bool false := (List.cons.inj (hA 8 (by decide))).1
    have f32 : slotOf act 32 = .agg (bookCells B ta tc sa sc) := (List.cons.inj (hA 9 (by decide))).1
    have f33 : slotOf act 33 = i64 (checkE B) := (List.cons.inj (hA 10 (by decide))).1
    have f34 : slotOf act 34 = .agg (bookCells B ta' tc' sa' sc') := (List.cons.inj (hA 11 (by decide))).1
    have f35 : slotOf act 35 = i64 (checkE B) := (List.cons.inj (hA 12 (by decide))).1
    have f36 : slotOf act 36 = .bool false := (List.cons.inj (hA 13 (by decide))).1
    have f37 : slotOf act 37 = .bool false := (List.cons.inj (hA 14 (by decide))).1
    rw [act_eta act 82 hF.size hF.defers]
    simp only [show List.range 82 = [0, 1, 2, 3, 4, 5, 6, 7, 8, 9, 10, 11, 12, 13, 14, 15, 16, 17, 18, 19, 20, 21, 22, 23, 24, 25, 26, 27, 28, 29, 30, 31, 32, 33, 34, 35, 36, 37, 38, 39, 40, 41, 42, 43, 44, 45, 46, 47, 48, 49, 50, 51, 52, 53, 54, 55, 56, 57, 58, 59, 60, 61, 62, 63, 64, 65, 66, 67, 68, 69, 70, 71, 72, 73, 74, 75, 76, 77, 78, 79, 80, 81] from rfl, List.map_cons, List.map_nil, f3, f4, f5, f6, f7, f8, f9, f10, f23, f24, f25, f26, f27, f28, f29, f30, f31, f32, f33, f34, f35, f36, f37]
    clear hA hF f3 f4 f5 f6 f7 f8 f9 f10 f23 f24 f25 f26 f27 f28 f29 f30 f31 f32 f33 f34 f35 f36 f37
    have hx3 := (hR.block _ (Array.getElem?_eq_some_iff.1 hx2).1).trans hx2
    have hy3 := (hR.block _ (Array.getElem?_eq_some_iff.1 hy2).1).trans hy2
    have hn3 := (hR.block _ (Array.getElem?_eq_some_iff.1 hn2).1).trans hn2
    have hG3 := hG2.below hR
    have ha3 := ha2.trans (hR.mono ha2.size)
    clear hR hx2 hy2 hn2 hG2 ha2 hxl2 hyl2
    have hnc3 := cells_of hn3
    have hnl3 := (Array.getElem?_eq_some_iff.1 hn3).1
    go_wp2_with (refine ld30 rfl _ rfl _ _ rfl hx3 rfl ?_)
    refine (height_v hG3 (hBo.below ha3) n0).mono ?_
    rintro e w4 ⟨rfl, hb4⟩
    rw [hh.out]
    have hx4 := (hb4.block _ (Array.getElem?_eq_some_iff.1 hx3).1).trans hx3
    have hy4 := (hb4.block _ (Array.getElem?_eq_some_iff.1 hy3).1).trans hy3
    have hn4 := (hb4.block _ (Array.getElem?_eq_some_iff.1 hn3).1).trans hn3
    have hG4 := hG3.below hb4
    have ha4 := ha3.trans (hb4.mono ha3.size)
    clear hx3 hy3 hn3 hG3 ha3
    clear hb4
    clear hnc3 hnl3
    have hord1 := (Array.getElem?_eq_some_iff.1 hn4).1
    obtain ⟨hb5, hp5⟩ := box24h w4 a b
    have hx5 := (hb5.block _ (Array.getElem?_eq_some_iff.1 hx4).1).trans hx4
    have hy5 := (hb5.block _ (Array.getElem?_eq_some_iff.1 hy4).1).trans hy4
    have hn5 := (hb5.block _ (Array.getElem?_eq_some_iff.1 hn4).1).trans hn4
    have hG5 := hG4.below hb5
    have ha5 := ha4.trans (hb5.mono ha4.size)
    clear hx4 hy4 hn4 hG4 ha4
    clear hb5
    have hnc5 := cells_of hn5
    have hnl5 := (Array.getElem?_eq_some_iff.1 hn5).1
    go_wp2_with (refine ld30 rfl _ rfl _ _ rfl hy5 rfl ?_)
    refine (heightRef_v (hBb.below ha5) n0).mono ?_
    rintro e w6 ⟨rfl, hb6⟩
    rw [hh.out]
    have hx6 := (hb6.block _ (Array.getElem?_eq_some_iff.1 hx5).1).trans hx5
    have hy6 := (hb6.block _ (Array.getElem?_eq_some_iff.1 hy5).1).trans hy5
    have hn6 := (hb6.block _ (Array.getElem?_eq_some_iff.1 hn5).1).trans hn5
    have hp6 := (hb6.block _ (Array.getElem?_eq_some_iff.1 hp5).1).trans hp5
    have hG6 := hG5.below hb6
    have ha6 := ha5.trans (hb6.mono ha5.size)
    clear hx5 hy5 hn5 hp5 hG5 ha5
    clear hb6
    clear hnc5 hnl5
    have hord2 := (Array.getElem?_eq_some_iff.1 hp6).1
    obtain ⟨hb7, hq7⟩ := box24h w6 a b
    have hx7 := (hb7.block _ (Array.getElem?_eq_some_iff.1 hx6).1).trans hx6
    have hy7 := (hb7.block _ (Array.getElem?_eq_some_iff.1 hy6).1).trans hy6
    have hn7 := (hb7.block _ (Array.getElem?_eq_some_iff.1 hn6).1).trans hn6
    have hp7 := (hb7.block _ (Array.getElem?_eq_some_iff.1 hp6).1).trans hp6
    have hG7 := hG6.below hb7
    have ha7 := ha6.trans (hb7.mono ha6.size)
    clear hx6 hy6 hn6 hp6 hG6 ha6
    clear hb7
    obtain ⟨p, hpe⟩ : ∃ p, w4.heap.size = p := ⟨_, rfl⟩
    obtain ⟨q, hqe⟩ : ∃ q, w6.heap.size = q := ⟨_, rfl⟩
    rw [hpe] at hp7 hord1 hord2
    rw [hqe] at hq7 hord2
    have hnc7 := cells_of hn7
    have hnl7 := (Array.getElem?_eq_some_iff.1 hn7).1
    have hpc7 := cells_of hp7
    have hpl7 := (Array.getElem?_eq_some_iff.1 hp7).1
    have hqc7 := cells_of hq7
    have hql7 := (Array.getElem?_eq_some_iff.1 hq7).1
    go_wp2_with (refine ld30 rfl _ rfl _ _ rfl hx7 rfl ?_)
    refine (floor_v hG7 (hBo.below ha7) n1).mono ?_
    rintro e w8 ⟨rfl, hb8⟩
    rw [hf.out]
    have hx8 := (hb8.block _ (Array.getElem?_eq_some_iff.1 hx7).1).trans hx7
    have hy8 := (hb8.block _ (Array.getElem?_eq_some_iff.1 hy7).1).trans hy7
    have hn8 := (hb8.block _ (Array.getElem?_eq_some_iff.1 hn7).1).trans hn7
    have hp8 := (hb8.block _ (Array.getElem?_eq_some_iff.1 hp7).1).trans hp7
    have hq8 := (hb8.block _ (Array.getElem?_eq_some_iff.1 hq7).1).trans hq7
    have hG8 := hG7.below hb8
    have ha8 := ha7.trans (hb8.mono ha7.size)
    clear hx7 hy7 hn7 hp7 hq7 hG7 ha7
    clear hb8
    clear hnc7 hnl7 hpc7 hpl7 hqc7 hql7
    obtain ⟨s1, s2, s3⟩ := set24 hp8 u v
    have hpc8 := cells_of hp8
    have hpf8 := frozen_of hp8
    have hpl8 := (Array.getElem?_eq_some_iff.1 hp8).1
    have hx9 := (s2 (w.heap.size) (by omega)).trans hx8
    have hy9 := (s2 (w.heap.size + 1) (by omega)).trans hy8
    have hn9 := (s2 (w.heap.size + 2) (by omega)).trans hn8
    have hq9 := (s2 (q) (by omega)).trans hq8
    have hp9 := s1
    have ha9 := s3 w.heap.size w (by omega) ha8
    have hG9 := hG.below ha9
    clear hG8 hx8 hy8 hn8 hq8 ha8 s1 s2 s3
    have hnc9 := cells_of hn9
    have hnl9 := (Array.getElem?_eq_some_iff.1 hn9).1
    go_wp2_with (refine ld30 rfl _ rfl _ _ rfl hy9 rfl ?_)
    refine (floorRef_v (hBb.below ha9) n1).mono ?_
    rintro e w10 ⟨rfl, hb10⟩
    rw [hf.out]
    have hx10 := (hb10.block _ (Array.getElem?_eq_some_iff.1 hx9).1).trans hx9
    have hy10 := (hb10.block _ (Array.getElem?_eq_some_iff.1 hy9).1).trans hy9
    have hn10 := (hb10.block _ (Array.getElem?_eq_some_iff.1 hn9).1).trans hn9
    have hp10 := (hb10.block _ (Array.getElem?_eq_some_iff.1 hp9).1).trans hp9
    have hq10 := (hb10.block _ (Array.getElem?_eq_some_iff.1 hq9).1).trans hq9
    have hG10 := hG9.below hb10
    have ha10 := ha9.trans (hb10.mono ha9.size)
    clear hx9 hy9 hn9 hp9 hq9 hG9 ha9
    clear hb10
    clear hnc9 hnl9
    obtain ⟨s1, s2, s3⟩ := set24 hq10 u v
    have hqc10 := cells_of hq10
    have hqf10 := frozen_of hq10
    have hql10 := (Array.getElem?_eq_some_iff.1 hq10).1
    have hx11 := (s2 (w.heap.size) (by omega)).trans hx10
    have hy11 := (s2 (w.heap.size + 1) (by omega)).trans hy10
    have hn11 := (s2 (w.heap.size + 2) (by omega)).trans hn10
    have hp11 := (s2 (p) (by omega)).trans hp10
    have hq11 := s1
    have ha11 := s3 w.heap.size w (by omega) ha10
    have hG11 := hG.below ha11
    have hpcE := cells_of hp11
    have hqcE := cells_of hq11
    have hpcl := (Array.getElem?_eq_some_iff.1 hp11).1
    have hqcl := (Array.getElem?_eq_some_iff.1 hq11).1
    go_wp2_with fail
    go_ret
    exact ⟨rfl, ha11⟩
end Go.Proofs.YtkbmpkdflgimmaaDoor
