/- The contract of the reference's Floor. (Printed by genref8.py.) -/
import Derived.Test.YtkbmpkdflgimmaaDoorRef7
namespace Go.Proofs.YtkbmpkdflgimmaaDoor
open Go.RowKit Go.Shelf

theorem ask_false_ne (B : Book) : (askE B false != 0) = true := by
  unfold askE
  cases B.valid <;> rfl
theorem idx111 {n c k b o : Nat} {a : Option Addr} (W : World) (ha : a = some ⟨b, o, none⟩) (hk : k < n) : (Instr.indexAt 111 (.slice a n c) (.int .i64 (k : Int))).run Tryd.prog W = .ok (.pointer (some ⟨b, o + k * 2, none⟩)) W :=
  run_index W Tryd.underlying111 (by kernel_rfl) ha hk
def rdFo0 (i : Nat) : List Nat := match i with
  | 0 => [11] | 1 => [12] | 2 => [13] | 3 => [14] | 4 => [10] | 5 => [15] | 6 => [16] | 7 => [6] | 8 => [7] | _ => []
def pureFo0 (i : Nat) : Bool := match i with
  | 2 => false | 3 => false | _ => true
def gFo0 (B : Book) (ta : Option Addr) (tc : Nat) (sa : Option Addr) (sc : Nat) (s : Int) (i : Nat) (vs : List Value) (W : World) : Prop := match i with
  | 0 => vs = [.agg (bookCells B ta tc sa sc)]
  | 1 => vs = [i64 s]
  | 2 => vs = [.bool false]
  | 3 => ∃ b a l c, vs = [.tuple #[.slice a (List.length l) c, i64 (askE B false)]] ∧ CansAt W.heap.size W b 0 a l ∧ (askE B false = 0 → l = cansB B)
  | 4 => ∃ b a l c, vs = [.tuple #[.slice a (List.length l) c, i64 (askE B false)]] ∧ CansAt W.heap.size W b 0 a l ∧ (askE B false = 0 → l = cansB B)
  | 5 => ∃ b a l c, vs = [.slice a (List.length l) c] ∧ CansAt W.heap.size W b 0 a l ∧ (askE B false = 0 → l = cansB B)
  | 6 => vs = [i64 (askE B false)]
  | 7 => ∃ b a l c, vs = [.slice a (List.length l) c] ∧ CansAt W.heap.size W b 0 a l ∧ (askE B false = 0 → l = cansB B)
  | 8 => vs = [i64 (askE B false)]
  | _ => True
def rdFo1 (i : Nat) : List Nat := match i with
  | 0 => [11] | 1 => [12] | 2 => [13] | 3 => [14] | 4 => [10] | 5 => [15] | 6 => [16] | 7 => [6] | 8 => [7] | _ => []
def pureFo1 (i : Nat) : Bool := match i with
  | 2 => false | 3 => false | _ => true
def gFo1 (B : Book) (ta : Option Addr) (tc : Nat) (sa : Option Addr) (sc : Nat) (s : Int) (i : Nat) (vs : List Value) (W : World) : Prop := match i with
  | 0 => vs = [.agg (bookCells B ta tc sa sc)]
  | 1 => vs = [i64 s]
  | 2 => vs = [.bool true]
  | 3 => ∃ b a l c, vs = [.tuple #[.slice a (List.length l) c, i64 (askE B true)]] ∧ CansAt W.heap.size W b 0 a l ∧ (askE B true = 0 → l = cansB B)
  | 4 => ∃ b a l c, vs = [.tuple #[.slice a (List.length l) c, i64 (askE B true)]] ∧ CansAt W.heap.size W b 0 a l ∧ (askE B true = 0 → l = cansB B)
  | 5 => ∃ b a l c, vs = [.slice a (List.length l) c] ∧ CansAt W.heap.size W b 0 a l ∧ (askE B true = 0 → l = cansB B)
  | 6 => vs = [i64 (askE B true)]
  | 7 => ∃ b a l c, vs = [.slice a (List.length l) c] ∧ CansAt W.heap.size W b 0 a l ∧ (askE B true = 0 → l = cansB B)
  | 8 => vs = [i64 (askE B true)]
  | _ => True
structure FoI (w : World) (B : Book) (s : Int) (la : Option Addr) (lc z k : Nat) (v : Value) (a : Act) (W7 W : World) : Prop where
  size : a.tmps.size = 38
  defers : a.defers = []
  s1 : slotOf a 1 = i64 s
  s4 : slotOf a 4 = .pointer (some ⟨w.heap.size + 1, 0, none⟩)
  s6 : slotOf a 6 = .slice la (cansB B).length lc
  s8 : slotOf a 8 = v
  s9 : slotOf a 9 = i64 k
  hz : z ≤ W.heap.size
  hb : Below z W7 W
  own : W.ownsRow z 3 1 v (((cansB B).take k).map (fAt s)).length ((((cansB B).take k).map (fAt s)).map i64)
set_option maxRecDepth 100000 in
set_option maxHeartbeats 8000000 in
theorem floorRef_any (B : Book) (ta : Option Addr) (tc : Nat) (sa : Option Addr) (sc : Nat) (s : Int) (w : World) (hB : BookV w (bookVal B ta tc sa sc) B) : Calls Tryd.prog 60 #[bookVal B ta tc sa sc, i64 s] w (FloorPost B s w) := by
  have hb0 : Below w.heap.size w ((w.alloc (.cells (bookCells B ta tc sa sc) 30)).alloc (.cells #[i64 0, i64 0] 24)) := ((Below.refl _ w).alloc (Nat.le_refl _) _).alloc (by simp) _
  have hx0 : ((w.alloc (.cells (bookCells B ta tc sa sc) 30)).alloc (.cells #[i64 0, i64 0] 24)).heap[w.heap.size]? = some (.cells (bookCells B ta tc sa sc) 30 (0, 0)) := (Below.heap_alloc _ _ _ (by simp)).trans (heap_alloc_new w _)
  have hp0 : ((w.alloc (.cells (bookCells B ta tc sa sc) 30)).alloc (.cells #[i64 0, i64 0] 24)).heap[w.heap.size + 1]? = some (.cells #[i64 0, i64 0] 24 (0, 0)) := heap_alloc2_new w _ _
  have hx0l := (Array.getElem?_eq_some_iff.1 hx0).1
  have hB0 := hB.below hb0
  cases hq : inB s 0 1
  · have hq := Lib.hid hq
    have hne : (askE B false != 0) = true := ask_false_ne B
    have hfin : Hid (floorR B s = (0, 0, askE B false)) := Lib.hid (by unfold floorR; rw [hq.out, if_neg (by simpa using hne)])
    go_enter Tryd.func60, Tryd.ntmps60
    go_wp2_with fail
    refine rg_region rdFo0 pureFo0 (gFo0 B ta tc sa sc s) BR (by kernel_rfl) (by kernel_rfl) (fun n => BR.drawn _ n) BR.refl (fun _ _ _ => BR.trans) ?_ ?_ ?_
    · intro i hi vs wA wB hG hR
      match i, hi, hG with
      | 0, _, hG => exact hG
      | 1, _, hG => exact hG
      | 2, _, hG => exact hG
      | 3, _, hG => obtain ⟨b, a, l, c, h1, h2, h3⟩ := hG; exact ⟨b, a, l, c, h1, (h2.same (Same.of_below hR)).up (Below.size hR), h3⟩
      | 4, _, hG => obtain ⟨b, a, l, c, h1, h2, h3⟩ := hG; exact ⟨b, a, l, c, h1, (h2.same (Same.of_below hR)).up (Below.size hR), h3⟩
      | 5, _, hG => obtain ⟨b, a, l, c, h1, h2, h3⟩ := hG; exact ⟨b, a, l, c, h1, (h2.same (Same.of_below hR)).up (Below.size hR), h3⟩
      | 6, _, hG => exact hG
      | 7, _, hG => obtain ⟨b, a, l, c, h1, h2, h3⟩ := hG; exact ⟨b, a, l, c, h1, (h2.same (Same.of_below hR)).up (Below.size hR), h3⟩
      | 8, _, hG => exact hG
      | _ + 9, _, _ => trivial
    · intro i op ho act wA hR hF hD
      have sz : act.tmps.size = 38 := hF.size
      match i, ho, hD with
      | 0, ho, hD =>
        cases ho
        have e2 := slot_tmps (show slotOf act 2 = .pointer (some ⟨w.heap.size, 0, none⟩) from hF.slot 2 (by kernel_rfl))
        refine rgw_val (wanted_none rfl) (.agg (bookCells B ta tc sa sc)) (by exact ex_load_row (a := act) 30 (.tmp 2) rfl w.heap.size (show slotOf act 2 = .pointer (some ⟨w.heap.size, 0, none⟩) from hF.slot 2 (by kernel_rfl)) 30 _ (0, 0) _ ((Below.block hR _ hx0l).trans hx0) Tryd.underlying30 rfl (by rw [size30]; rfl)) (BR.refl _) ?_
        exact congrArg (fun v => [v]) (slotOf_same act 11 _ (by omega))
      | 1, ho, hD =>
        cases ho
        have e1 := slot_tmps (show slotOf act 1 = i64 s from hF.slot 1 (by kernel_rfl))
        refine rgw_val (wanted_none rfl) (i64 s) (by simp [go_sem, e1]) (BR.refl _) ?_
        exact congrArg (fun v => [v]) (slotOf_same act 12 _ (by omega))
      | 2, ho, hD =>
        cases ho
        have e12 := slot_tmps (List.cons.inj (hD 1 (by decide))).1
        refine rgw_call (wanted_none rfl) 87 #[i64 s] (by simp [go_sem, e12]) rfl ?_
        refine (isShoreR_any _ _).mono ?_
        rintro e wB ⟨rfl, rfl⟩
        rw [hq.out]
        exact ⟨_, rfl, BR.refl _, congrArg (fun v => [v]) (slotOf_same act 13 _ (by omega))⟩
      | 3, ho, hD =>
        cases ho
        have e11 := slot_tmps (List.cons.inj (hD 0 (by decide))).1
        have e13 := slot_tmps (List.cons.inj (hD 2 (by decide))).1
        refine rgw_call (wanted_none rfl) 88 #[bookVal B ta tc sa sc, .bool false] (by simp [go_sem, e11, e13]) rfl ?_
        refine (askedR_v (hB0.below hR) false).mono ?_
        rintro e wB ⟨b, a, l, c, rfl, hb, hC, hl⟩
        exact ⟨_, rfl, hb, b, a, l, c, congrArg (fun v => [v]) (slotOf_same act 14 _ (by omega)), hC, hl⟩
      | 4, ho, hD =>
        cases ho
        obtain ⟨b, a, l, c, dt, hC, hl⟩ := hD 3 (by decide)
        have es := slot_tmps (List.cons.inj dt).1
        refine rgw_val (wanted_none rfl) (.tuple #[.slice a (List.length l) c, i64 (askE B false)]) (by simp [go_sem, es]) (BR.refl _) ?_
        exact ⟨b, a, l, c, congrArg (fun v => [v]) (slotOf_same act 10 _ (by omega)), hC, hl⟩
      | 5, ho, hD =>
        cases ho
        obtain ⟨b, a, l, c, dt, hC, hl⟩ := hD 4 (by decide)
        have es := slot_tmps (List.cons.inj dt).1
        refine rgw_val (wanted_none rfl) (.slice a (List.length l) c) (by simp [go_sem, es]) (BR.refl _) ?_
        exact ⟨b, a, l, c, congrArg (fun v => [v]) (slotOf_same act 15 _ (by omega)), hC, hl⟩
      | 6, ho, hD =>
        cases ho
        obtain ⟨b, a, l, c, dt, hC, hl⟩ := hD 4 (by decide)
        have es := slot_tmps (List.cons.inj dt).1
        refine rgw_val (wanted_none rfl) (i64 (askE B false)) (by simp [go_sem, es]) (BR.refl _) ?_
        exact congrArg (fun v => [v]) (slotOf_same act 16 _ (by omega))
      | 7, ho, hD =>
        cases ho
        obtain ⟨b, a, l, c, dt, hC, hl⟩ := hD 5 (by decide)
        have es := slot_tmps (List.cons.inj dt).1
        refine rgw_val (wanted_none rfl) (.slice a (List.length l) c) (by simp [go_sem, es]) (BR.refl _) ?_
        exact ⟨b, a, l, c, congrArg (fun v => [v]) (slotOf_same act 6 _ (by omega)), hC, hl⟩
      | 8, ho, hD =>
        cases ho
        have e16 := slot_tmps (List.cons.inj (hD 6 (by decide))).1
        refine rgw_val (wanted_none rfl) (i64 (askE B false)) (by simp [go_sem, e16]) (BR.refl _) ?_
        exact congrArg (fun v => [v]) (slotOf_same act 7 _ (by omega))
      | _ + 9, ho, _ => cases ho
    · intro act wA hR hF hA
      have f1 : slotOf act 1 = i64 s := hF.slot 1 (by kernel_rfl)
      have f2 : slotOf act 2 = .pointer (some ⟨w.heap.size, 0, none⟩) := hF.slot 2 (by kernel_rfl)
      have f4 : slotOf act 4 = .pointer (some ⟨w.heap.size + 1, 0, none⟩) := hF.slot 4 (by kernel_rfl)
      have f5 : slotOf act 5 = i64 0 := hF.slot 5 (by kernel_rfl)
      obtain ⟨lb, la, l, lc, d6, hC, hl⟩ := hA 7 (by decide)
      have f6 : slotOf act 6 = .slice la l.length lc := (List.cons.inj d6).1
      have f7 : slotOf act 7 = i64 (askE B false) := (List.cons.inj (hA 8 (by decide))).1
      have f11 : slotOf act 11 = .agg (bookCells B ta tc sa sc) := (List.cons.inj (hA 0 (by decide))).1
      have f12 : slotOf act 12 = i64 s := (List.cons.inj (hA 1 (by decide))).1
      have f13 : slotOf act 13 = .bool false := (List.cons.inj (hA 2 (by decide))).1
      have f16 : slotOf act 16 = i64 (askE B false) := (List.cons.inj (hA 6 (by decide))).1
      rw [act_eta act 38 hF.size hF.defers]
      simp only [show List.range 38 = [0, 1, 2, 3, 4, 5, 6, 7, 8, 9, 10, 11, 12, 13, 14, 15, 16, 17, 18, 19, 20, 21, 22, 23, 24, 25, 26, 27, 28, 29, 30, 31, 32, 33, 34, 35, 36, 37] from rfl, List.map_cons, List.map_nil, f1, f2, f4, f5, f6, f7, f11, f12, f13, f16]
      clear hA hF f1 f2 f4 f5 f6 f7 f11 f12 f13 f16
      have hpA := (Below.block hR _ (Array.getElem?_eq_some_iff.1 hp0).1).trans hp0
      have hpc := cells_of hpA
      have hpf := frozen_of hpA
      have hpl := (Array.getElem?_eq_some_iff.1 hpA).1
      have hset := set_two1 (set_two0 hpA (i64 0)) (i64 0)
      have hbA := hb0.trans (Below.mono hR hb0.size)
      clear hR
      go_wp2_with fail
      refine bodyPost_ret (results_cell_tmp rfl _ _ (w.heap.size + 1) 24 _ (0, 0) _ rfl hset Tryd.underlying24 rfl (by kernel_rfl)) rfl ⟨by rw [hfin.out]; rfl, ?_⟩
      exact (hbA.setCell (p := ⟨w.heap.size + 1, 0, none⟩) (Nat.le_succ _) _).setCell (p := ⟨w.heap.size + 1, 1, none⟩) (Nat.le_succ _) _
  · have hq := Lib.hid hq
    go_enter Tryd.func60, Tryd.ntmps60
    go_wp2_with fail
    refine rg_region rdFo1 pureFo1 (gFo1 B ta tc sa sc s) BR (by kernel_rfl) (by kernel_rfl) (fun n => BR.drawn _ n) BR.refl (fun _ _ _ => BR.trans) ?_ ?_ ?_
    · intro i hi vs wA wB hG hR
      match i, hi, hG with
      | 0, _, hG => exact hG
      | 1, _, hG => exact hG
      | 2, _, hG => exact hG
      | 3, _, hG => obtain ⟨b, a, l, c, h1, h2, h3⟩ := hG; exact ⟨b, a, l, c, h1, (h2.same (Same.of_below hR)).up (Below.size hR), h3⟩
      | 4, _, hG => obtain ⟨b, a, l, c, h1, h2, h3⟩ := hG; exact ⟨b, a, l, c, h1, (h2.same (Same.of_below hR)).up (Below.size hR), h3⟩
      | 5, _, hG => obtain ⟨b, a, l, c, h1, h2, h3⟩ := hG; exact ⟨b, a, l, c, h1, (h2.same (Same.of_below hR)).up (Below.size hR), h3⟩
      | 6, _, hG => exact hG
      | 7, _, hG => obtain ⟨b, a, l, c, h1, h2, h3⟩ := hG; exact ⟨b, a, l, c, h1, (h2.same (Same.of_below hR)).up (Below.size hR), h3⟩
      | 8, _, hG => exact hG
      | _ + 9, _, _ => trivial
    · intro i op ho act wA hR hF hD
      have sz : act.tmps.size = 38 := hF.size
      match i, ho, hD with
      | 0, ho, hD =>
        cases ho
        have e2 := slot_tmps (show slotOf act 2 = .pointer (some ⟨w.heap.size, 0, none⟩) from hF.slot 2 (by kernel_rfl))
        refine rgw_val (wanted_none rfl) (.agg (bookCells B ta tc sa sc)) (by exact ex_load_row (a := act) 30 (.tmp 2) rfl w.heap.size (show slotOf act 2 = .pointer (some ⟨w.heap.size, 0, none⟩) from hF.slot 2 (by kernel_rfl)) 30 _ (0, 0) _ ((Below.block hR _ hx0l).trans hx0) Tryd.underlying30 rfl (by rw [size30]; rfl)) (BR.refl _) ?_
        exact congrArg (fun v => [v]) (slotOf_same act 11 _ (by omega))
      | 1, ho, hD =>
        cases ho
        have e1 := slot_tmps (show slotOf act 1 = i64 s from hF.slot 1 (by kernel_rfl))
        refine rgw_val (wanted_none rfl) (i64 s) (by simp [go_sem, e1]) (BR.refl _) ?_
        exact congrArg (fun v => [v]) (slotOf_same act 12 _ (by omega))
      | 2, ho, hD =>
        cases ho
        have e12 := slot_tmps (List.cons.inj (hD 1 (by decide))).1
        refine rgw_call (wanted_none rfl) 87 #[i64 s] (by simp [go_sem, e12]) rfl ?_
        refine (isShoreR_any _ _).mono ?_
        rintro e wB ⟨rfl, rfl⟩
        rw [hq.out]
        exact ⟨_, rfl, BR.refl _, congrArg (fun v => [v]) (slotOf_same act 13 _ (by omega))⟩
      | 3, ho, hD =>
        cases ho
        have e11 := slot_tmps (List.cons.inj (hD 0 (by decide))).1
        have e13 := slot_tmps (List.cons.inj (hD 2 (by decide))).1
        refine rgw_call (wanted_none rfl) 88 #[bookVal B ta tc sa sc, .bool true] (by simp [go_sem, e11, e13]) rfl ?_
        refine (askedR_v (hB0.below hR) true).mono ?_
        rintro e wB ⟨b, a, l, c, rfl, hb, hC, hl⟩
        exact ⟨_, rfl, hb, b, a, l, c, congrArg (fun v => [v]) (slotOf_same act 14 _ (by omega)), hC, hl⟩
      | 4, ho, hD =>
        cases ho
        obtain ⟨b, a, l, c, dt, hC, hl⟩ := hD 3 (by decide)
        have es := slot_tmps (List.cons.inj dt).1
        refine rgw_val (wanted_none rfl) (.tuple #[.slice a (List.length l) c, i64 (askE B true)]) (by simp [go_sem, es]) (BR.refl _) ?_
        exact ⟨b, a, l, c, congrArg (fun v => [v]) (slotOf_same act 10 _ (by omega)), hC, hl⟩
      | 5, ho, hD =>
        cases ho
        obtain ⟨b, a, l, c, dt, hC, hl⟩ := hD 4 (by decide)
        have es := slot_tmps (List.cons.inj dt).1
        refine rgw_val (wanted_none rfl) (.slice a (List.length l) c) (by simp [go_sem, es]) (BR.refl _) ?_
        exact ⟨b, a, l, c, congrArg (fun v => [v]) (slotOf_same act 15 _ (by omega)), hC, hl⟩
      | 6, ho, hD =>
        cases ho
        obtain ⟨b, a, l, c, dt, hC, hl⟩ := hD 4 (by decide)
        have es := slot_tmps (List.cons.inj dt).1
        refine rgw_val (wanted_none rfl) (i64 (askE B true)) (by simp [go_sem, es]) (BR.refl _) ?_
        exact congrArg (fun v => [v]) (slotOf_same act 16 _ (by omega))
      | 7, ho, hD =>
        cases ho
        obtain ⟨b, a, l, c, dt, hC, hl⟩ := hD 5 (by decide)
        have es := slot_tmps (List.cons.inj dt).1
        refine rgw_val (wanted_none rfl) (.slice a (List.length l) c) (by simp [go_sem, es]) (BR.refl _) ?_
        exact ⟨b, a, l, c, congrArg (fun v => [v]) (slotOf_same act 6 _ (by omega)), hC, hl⟩
      | 8, ho, hD =>
        cases ho
        have e16 := slot_tmps (List.cons.inj (hD 6 (by decide))).1
        refine rgw_val (wanted_none rfl) (i64 (askE B true)) (by simp [go_sem, e16]) (BR.refl _) ?_
        exact congrArg (fun v => [v]) (slotOf_same act 7 _ (by omega))
      | _ + 9, ho, _ => cases ho
    · intro act wA hR hF hA
      have f1 : slotOf act 1 = i64 s := hF.slot 1 (by kernel_rfl)
      have f2 : slotOf act 2 = .pointer (some ⟨w.heap.size, 0, none⟩) := hF.slot 2 (by kernel_rfl)
      have f4 : slotOf act 4 = .pointer (some ⟨w.heap.size + 1, 0, none⟩) := hF.slot 4 (by kernel_rfl)
      have f5 : slotOf act 5 = i64 0 := hF.slot 5 (by kernel_rfl)
      obtain ⟨lb, la, l, lc, d6, hC, hl⟩ := hA 7 (by decide)
      have f6 : slotOf act 6 = .slice la l.length lc := (List.cons.inj d6).1
      have f7 : slotOf act 7 = i64 (askE B true) := (List.cons.inj (hA 8 (by decide))).1
      have f11 : slotOf act 11 = .agg (bookCells B ta tc sa sc) := (List.cons.inj (hA 0 (by decide))).1
      have f12 : slotOf act 12 = i64 s := (List.cons.inj (hA 1 (by decide))).1
      have f13 : slotOf act 13 = .bool true := (List.cons.inj (hA 2 (by decide))).1
      have f16 : slotOf act 16 = i64 (askE B true) := (List.cons.inj (hA 6 (by decide))).1
      rw [act_eta act 38 hF.size hF.defers]
      simp only [show List.range 38 = [0, 1, 2, 3, 4, 5, 6, 7, 8, 9, 10, 11, 12, 13, 14, 15, 16, 17, 18, 19, 20, 21, 22, 23, 24, 25, 26, 27, 28, 29, 30, 31, 32, 33, 34, 35, 36, 37] from rfl, List.map_cons, List.map_nil, f1, f2, f4, f5, f6, f7, f11, f12, f13, f16]
      clear hA hF f1 f2 f4 f5 f6 f7 f11 f12 f13 f16
      by_cases ha : askE B true = 0
      · obtain rfl := hl ha
        have hne : (askE B true != 0) = false := by rw [ha]; rfl
        have hcc : ∃ f, CC B [] f := (ask_cases (ask_zero ha).1).elim (fun h => by rw [h.2] at ha; cases ha) (fun h => h.1)
        have hVl := (VB.of_valid (ask_zero ha).1).len
        obtain ⟨mn, hmn⟩ : ∃ mn, minL ((cansB B).map (fAt s)) = mn := ⟨_, rfl⟩
        obtain ⟨mx, hmx⟩ : ∃ mx, maxL (((cansB B).map (fAt s)).head?.getD 0) ((cansB B).map (fAt s)) = mx := ⟨_, rfl⟩
        have hfin : Hid (floorR B s = (mn, mx, 0)) := Lib.hid (by unfold floorR; rw [hq.out, if_pos ha, hmn, hmx])
        replace hmn := Lib.hid hmn
        replace hmx := Lib.hid hmx
        have hnn : (cansB B).map (fAt s) ≠ [] := fun h => by obtain ⟨f, hf⟩ := hcc; have := (mem_floorL (s := s)).2 ⟨f, hf, rfl⟩; rw [h] at this; cases this
        have hss : s = 0 ∨ s = 1 := by have h := inB_iff.1 hq.out; omega
        have haH := Lib.hid ha
        clear ha
        have hxA := (Below.block hR _ hx0l).trans hx0
        have hpA := (Below.block hR _ (Array.getElem?_eq_some_iff.1 hp0).1).trans hp0
        have hbA := hb0.trans (Below.mono hR hb0.size)
        obtain ⟨z, hze⟩ : ∃ z, wA.heap.size = z := ⟨_, rfl⟩
        have hzA : z ≤ wA.heap.size := Nat.le_of_eq hze.symm
        have hpz := (Array.getElem?_eq_some_iff.1 hpA).1
        rw [hze] at hpz
        have hCz : CansAt z wA lb 0 la (cansB B) := hze ▸ hC
        clear hze hR hC
        go_wp2_with fail
        refine wp_loop (fun act W => ∃ (k : Nat) (v : Value), k ≤ (cansB B).length ∧ FoI w B s la lc z k v act wA W) (fun act _ => (cansB B).length - (intOf (slotOf act 9)).toNat) ?_ ?_
        · exact ⟨0, .slice none 0 0, Nat.zero_le _, rfl, rfl, rfl, rfl, rfl, rfl, rfl, hzA, ⟨rfl, rfl, rfl, Nat.le_refl _, fun _ _ => rfl⟩, World.ownsRow_nil _ _ _ _⟩
        · rintro act W9 ⟨k, v, hk, hsz, hdf, s1, s4, s6, s8, s9, hz9, hb9, hown⟩
          rw [act_eta act 38 hsz hdf]
          simp only [show List.range 38 = [0, 1, 2, 3, 4, 5, 6, 7, 8, 9, 10, 11, 12, 13, 14, 15, 16, 17, 18, 19, 20, 21, 22, 23, 24, 25, 26, 27, 28, 29, 30, 31, 32, 33, 34, 35, 36, 37] from rfl, List.map_cons, List.map_nil, s1, s4, s6, s8, s9]
          by_cases hlt : k < (cansB B).length
          · have hlt' : (k : Int) < ((cansB B).length : Int) := by omega
            have hC9 := hCz.same ⟨Nat.le_trans hb9.size (Nat.le_refl _), fun j hj => hb9.block j hj⟩
            have hi111 : ∀ W, (Instr.indexAt 111 (.slice la (cansB B).length lc) (.int .i64 (k : Int))).run Tryd.prog W = .ok (.pointer (some ⟨lb, k * 2, none⟩)) W := fun W => by simpa using idx111 W (hC9.at_ (ne_nil_of_lt hlt)) hlt
            have c1 := hC9.fst k hlt
            have c2 := hC9.snd k hlt
            rw [Nat.zero_add] at c1 c2
            obtain ⟨i0, hi, hi1, hi2, hi3⟩ := info_parts info3'
            have hsucc := Lib.hid (show ((cansB B).take (k + 1)).map (fAt s) = ((cansB B).take k).map (fAt s) ++ [fAt s (cansB B)[k]] by rw [List.take_succ_eq_append_getElem hlt, List.map_append]; rfl)
            have hxe : ∃ x, fAt s (cansB B)[k] = x := ⟨_, rfl⟩
            obtain ⟨x, hxe⟩ := hxe
            have hbn : Below W9.heap.size W9 (W9.alloc (.cells #[i64 x] 3)) := (Below.refl _ W9).alloc (Nat.le_refl _) _
            have hgn := heap_alloc_new W9 (.cells #[i64 x] 3)
            have hgc := cells_of hgn
            have hown7 := ownsRow_below hown hbn
            have hz7 := Nat.le_trans hz9 hbn.size
            have hb7 := hb9.trans (hbn.mono hz9)
            have hnews : ∀ j' u, [i64 x][j']? = some u → (W9.alloc (.cells #[i64 x] 3)).cell? ((⟨W9.heap.size, 0, none⟩ : Addr).add j') = some u := fun j' u hu => by
              rw [addr_add, hgc]
              simpa using hu
            have hcl : (((cansB B).take k).map (fAt s)).length ≤ 1000 := by rw [List.length_map, List.length_take]; omega
            clear hgn hgc
            rcases hss with rfl | rfl
            · have hx1 : (cansB B)[k].1 = x := hxe
              rw [hx1] at c1
              have hxH := Lib.hid hxe
              clear hxe hx1
              go_wp2_with (first | (at_builtin; refine wpList_append_own _ rfl _ _ 40 rfl z 3 i0 (i64 0) 1 8 Tryd.underlying40 hi hi1 hi2 hi3 rfl (by decide) v _ _ rfl hown7 ⟨W9.heap.size, 0, none⟩ 1 1 [i64 x] rfl rfl hnews (by simp [Value.oneCell']) (by unfold maxLen; omega) (by omega) hz7 ?_; intro v' w2 hown' hgrow _))
              refine ⟨⟨k + 1, v', by omega, rfl, rfl, rfl, rfl, rfl, rfl, congrArg (Value.int .i64) (Int.natCast_succ k).symm, Nat.le_trans hz7 hgrow.size, hb7.grown hgrow (by omega) (fun j e => by have := (hown7.lt _ e).1; omega), by rw [hsucc.out, hxH.out, List.length_append, List.map_append]; exact hown'⟩, ?_⟩
              show (cansB B).length - ((k : Int) + 1).toNat < (cansB B).length - (k : Int).toNat
              omega
            · have hx1 : (cansB B)[k].2 = x := hxe
              rw [hx1] at c2
              have hxH := Lib.hid hxe
              clear hxe hx1
              go_wp2_with (first | (at_builtin; refine wpList_append_own _ rfl _ _ 40 rfl z 3 i0 (i64 0) 1 8 Tryd.underlying40 hi hi1 hi2 hi3 rfl (by decide) v _ _ rfl hown7 ⟨W9.heap.size, 0, none⟩ 1 1 [i64 x] rfl rfl hnews (by simp [Value.oneCell']) (by unfold maxLen; omega) (by omega) hz7 ?_; intro v' w2 hown' hgrow _))
              refine ⟨⟨k + 1, v', by omega, rfl, rfl, rfl, rfl, rfl, rfl, congrArg (Value.int .i64) (Int.natCast_succ k).symm, Nat.le_trans hz7 hgrow.size, hb7.grown hgrow (by omega) (fun j e => by have := (hown7.lt _ e).1; omega), by rw [hsucc.out, hxH.out, List.length_append, List.map_append]; exact hown'⟩, ?_⟩
              show (cansB B).length - ((k : Int) + 1).toNat < (cansB B).length - (k : Int).toNat
              omega
          · have hlt' : ¬ (k : Int) < ((cansB B).length : Int) := by omega
            obtain rfl : k = (cansB B).length := by omega
            rw [List.take_length] at hown
            have hLV : ListV W9 v ((cansB B).map (fAt s)) := ListV.of_row (base := z) (by simpa using hown) (by simpa using hVl)
            have hp9 := (hb9.block _ hpz).trans hpA
            have hbw9 := hbA.trans (hb9.mono (by omega))
            go_wp2_with fail
            have hE : Calls Tryd.prog 90 #[v] W9 (fun e w' => e = .returned (.agg #[i64 mn, i64 mx]) ∧ Below W9.heap.size W9 w') := by
              have h := endsR_v hLV hnn (by simpa using hVl)
              unfold EndsPost at h
              rw [hmn.out, hmx.out] at h
              exact h
            refine hE.mono ?_
            rintro e w2 ⟨rfl, hb2⟩
            have hp2 := (hb2.block _ (Array.getElem?_eq_some_iff.1 hp9).1).trans hp9
            have hpc := cells_of hp2
            have hpf := frozen_of hp2
            have hpl := (Array.getElem?_eq_some_iff.1 hp2).1
            have hset := set_two1 (set_two0 hp2 (i64 mn)) (i64 mx)
            have hbw2 := hbw9.trans (hb2.mono hbw9.size)
            go_wp2_with fail
            refine bodyPost_ret (results_cell_tmp rfl _ _ (w.heap.size + 1) 24 _ (0, 0) _ rfl hset Tryd.underlying24 rfl (by kernel_rfl)) rfl ⟨by rw [hfin.out]; rfl, ?_⟩
            exact (hbw2.setCell (p := ⟨w.heap.size + 1, 0, none⟩) (Nat.le_succ _) _).setCell (p := ⟨w.heap.size + 1, 1, none⟩) (Nat.le_succ _) _
      · have hne : (askE B true != 0) = true := by simpa using ha
        have hfin : Hid (floorR B s = (0, 0, askE B true)) := Lib.hid (by unfold floorR; rw [hq.out, if_neg ha])
        clear ha
        have hpA := (Below.block hR _ (Array.getElem?_eq_some_iff.1 hp0).1).trans hp0
        have hpc := cells_of hpA
        have hpf := frozen_of hpA
        have hpl := (Array.getElem?_eq_some_iff.1 hpA).1
        have hset := set_two1 (set_two0 hpA (i64 0)) (i64 0)
        have hbA := hb0.trans (Below.mono hR hb0.size)
        clear hR
        go_wp2_with fail
        refine bodyPost_ret (results_cell_tmp rfl _ _ (w.heap.size + 1) 24 _ (0, 0) _ rfl hset Tryd.underlying24 rfl (by kernel_rfl)) rfl ⟨by rw [hfin.out]; rfl, ?_⟩
        exact (hbA.setCell (p := ⟨w.heap.size + 1, 0, none⟩) (Nat.le_succ _) _).setCell (p := ⟨w.heap.size + 1, 1, none⟩) (Nat.le_succ _) _
theorem floorRef_v {B : Book} {v : Value} {w : World} (hB : BookV w v B) (s : Int) : Calls Tryd.prog 60 #[v, i64 s] w (FloorPost B s w) := by
  obtain ⟨tb, tq, ta, tc, sb, sq, sa, sc, rfl, hT, hS⟩ := hB
  exact floorRef_any B ta tc sa sc s w ⟨tb, tq, ta, tc, sb, sq, sa, sc, rfl, hT, hS⟩
end Go.Proofs.YtkbmpkdflgimmaaDoor
