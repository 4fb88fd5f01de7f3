/- The contract of the reference's Height. (Printed by genref9.py.) -/
import Derived.Test.YtkbmpkdflgimmaaDoorRef8
import Derived.Test.YtkbmpkdflgimmaaDoorRL2
namespace Go.Proofs.YtkbmpkdflgimmaaDoor
open Go.RowKit Go.Shelf

theorem heightsR_v {B : Book} {v : Value} {w : World} (hB : BookV w v B) (hV : Vld B) {hr p0 p1 : Int} (h0 : 0 ≤ hr) (h1 : hr < B.tides.length) (r0 : -1000 ≤ p0 ∧ p0 ≤ 1000) (r1 : -1000 ≤ p1 ∧ p1 ≤ 1000) : Calls Tryd.prog 89 #[v, .agg #[i64 p0, i64 p1], i64 hr] w (HeightsPost B hr p0 p1 w) := by
  obtain ⟨tb, tq, ta, tc, sb, sq, sa, sc, rfl, hT, hS⟩ := hB
  obtain ⟨k, rfl⟩ : ∃ k : Nat, hr = k := ⟨hr.toNat, by omega⟩
  exact heightsR_any B tb tq ta tc sb sq sa sc p0 p1 k w hT hS hV (by omega) r0 r1
theorem cans25 {B : Book} (hV : Vld B) : (cansB B).length ≤ 25 := by
  have g1 := hV.sh0.fn
  have g2 := hV.sh0.ff
  have h := preC0_len B (dep B.sounds []) (B.s0.fh - B.s0.fl + 1).toNat ⟨by have := hV.sh1.fl; omega, by have := hV.sh1.ff; omega, by have := hV.sh1.fh; omega, by have := hV.sh1.fn; omega⟩
  show (preC0 B (dep B.sounds []) _).length ≤ 25
  omega
theorem htsR_len {B : Book} (hV : Vld B) {hr : Int} (h0 : 0 ≤ hr) (h1 : hr < B.tides.length) (f : Int × Int) : (hts B hr f).length ≤ 5 := by
  have hk : hr.toNat < B.tides.length := by omega
  have ht := hV.tides _ (List.getElem_mem hk)
  rw [← tideAt_nat hk, Int.toNat_of_nonneg h0] at ht
  have := preL_len (tideAt B hr) (dep B.sounds []) hr f.1 f.2 ((tideAt B hr).hi - (tideAt B hr).lo + 1).toNat
  show (preL _ _ _ _ _ _).length ≤ 5
  omega
theorem flat_len {α : Type} (l : List α) (g : α → List Int) (n : Nat) (h : ∀ x, (g x).length ≤ n) : (l.flatMap g).length ≤ n * l.length := by
  induction l with
  | nil => simp
  | cons a l ih =>
    rw [List.flatMap_cons, List.length_append, List.length_cons, Nat.mul_succ]
    have := h a
    omega
theorem addr_add2 (g o j : Nat) : (⟨g, o, none⟩ : Addr).add j = ⟨g, o + j, none⟩ := by unfold Addr.add; split <;> simp_all
structure HeI (w : World) (B : Book) (hr : Int) (la : Option Addr) (lc z k : Nat) (v : Value) (a : Act) (W7 W : World) : Prop where
  size : a.tmps.size = 39
  defers : a.defers = []
  s1 : slotOf a 1 = i64 hr
  s2 : slotOf a 2 = .pointer (some ⟨w.heap.size, 0, none⟩)
  s4 : slotOf a 4 = .pointer (some ⟨w.heap.size + 1, 0, none⟩)
  s6 : slotOf a 6 = .slice la (cansB B).length lc
  s8 : slotOf a 8 = v
  s9 : slotOf a 9 = i64 k
  hz : z ≤ W.heap.size
  hb : Below z W7 W
  own : W.ownsRow z 3 1 v (((cansB B).take k).flatMap (hts B hr)).length ((((cansB B).take k).flatMap (hts B hr)).map i64)
def rdHe0 (i : Nat) : List Nat := match i with
  | 0 => [11] | 1 => [12] | 2 => [13] | 3 => [14] | 4 => [15] | 5 => [10] | 6 => [16] | 7 => [17] | 8 => [6] | 9 => [7] | _ => []
def pureHe0 (i : Nat) : Bool := match i with
  | 3 => false | 4 => false | _ => true
def gHe0 (B : Book) (ta : Option Addr) (tc : Nat) (sa : Option Addr) (sc : Nat) (hr : Int) (i : Nat) (vs : List Value) (W : World) : Prop := match i with
  | 0 => vs = [.agg (bookCells B ta tc sa sc)]
  | 1 => vs = [.agg (bookCells B ta tc sa sc)]
  | 2 => vs = [i64 hr]
  | 3 => vs = [.bool false]
  | 4 => ∃ b a l c, vs = [.tuple #[.slice a (List.length l) c, i64 (askE B false)]] ∧ CansAt W.heap.size W b 0 a l ∧ (askE B false = 0 → l = cansB B)
  | 5 => ∃ b a l c, vs = [.tuple #[.slice a (List.length l) c, i64 (askE B false)]] ∧ CansAt W.heap.size W b 0 a l ∧ (askE B false = 0 → l = cansB B)
  | 6 => ∃ b a l c, vs = [.slice a (List.length l) c] ∧ CansAt W.heap.size W b 0 a l ∧ (askE B false = 0 → l = cansB B)
  | 7 => vs = [i64 (askE B false)]
  | 8 => ∃ b a l c, vs = [.slice a (List.length l) c] ∧ CansAt W.heap.size W b 0 a l ∧ (askE B false = 0 → l = cansB B)
  | 9 => vs = [i64 (askE B false)]
  | _ => True
def rdHe1 (i : Nat) : List Nat := match i with
  | 0 => [11] | 1 => [12] | 2 => [13] | 3 => [14] | 4 => [15] | 5 => [10] | 6 => [16] | 7 => [17] | 8 => [6] | 9 => [7] | _ => []
def pureHe1 (i : Nat) : Bool := match i with
  | 3 => false | 4 => false | _ => true
def gHe1 (B : Book) (ta : Option Addr) (tc : Nat) (sa : Option Addr) (sc : Nat) (hr : Int) (i : Nat) (vs : List Value) (W : World) : Prop := match i with
  | 0 => vs = [.agg (bookCells B ta tc sa sc)]
  | 1 => vs = [.agg (bookCells B ta tc sa sc)]
  | 2 => vs = [i64 hr]
  | 3 => vs = [.bool true]
  | 4 => ∃ b a l c, vs = [.tuple #[.slice a (List.length l) c, i64 (askE B true)]] ∧ CansAt W.heap.size W b 0 a l ∧ (askE B true = 0 → l = cansB B)
  | 5 => ∃ b a l c, vs = [.tuple #[.slice a (List.length l) c, i64 (askE B true)]] ∧ CansAt W.heap.size W b 0 a l ∧ (askE B true = 0 → l = cansB B)
  | 6 => ∃ b a l c, vs = [.slice a (List.length l) c] ∧ CansAt W.heap.size W b 0 a l ∧ (askE B true = 0 → l = cansB B)
  | 7 => vs = [i64 (askE B true)]
  | 8 => ∃ b a l c, vs = [.slice a (List.length l) c] ∧ CansAt W.heap.size W b 0 a l ∧ (askE B true = 0 → l = cansB B)
  | 9 => vs = [i64 (askE B true)]
  | _ => True
def rdHe8 (i : Nat) : List Nat := match i with
  | 0 => [28] | 1 => [29] | 2 => [30] | 3 => [31] | 4 => [32] | 5 => [33] | 6 => [34] | 7 => [35] | _ => []
def pureHe8 (i : Nat) : Bool := match i with
  | 7 => false | _ => true
def gHe8 (B : Book) (ta : Option Addr) (tc : Nat) (sa : Option Addr) (sc : Nat) (la : Option Addr) (lc lb k : Nat) (v : Value) (hr p0 p1 : Int) (i : Nat) (vs : List Value) (W : World) : Prop := match i with
  | 0 => vs = [v]
  | 1 => vs = [.agg (bookCells B ta tc sa sc)]
  | 2 => vs = [.slice la (cansB B).length lc]
  | 3 => vs = [i64 k]
  | 4 => vs = [.pointer (some ⟨lb, k * 2, none⟩)]
  | 5 => vs = [.agg #[i64 p0, i64 p1]]
  | 6 => vs = [i64 hr]
  | 7 => ∃ v, vs = [v] ∧ ListV W v (hts B hr (p0, p1))
  | _ => True
set_option maxRecDepth 100000 in
set_option maxHeartbeats 8000000 in
theorem heightRef_any (B : Book) (ta : Option Addr) (tc : Nat) (sa : Option Addr) (sc : Nat) (hr : Int) (w : World) (hB : BookV w (bookVal B ta tc sa sc) B) (htl : B.tides.length * 16 ≤ 140737488351232) : Calls Tryd.prog 59 #[bookVal B ta tc sa sc, i64 hr] w (HeightPost B hr w) := by
  have hb0 : Below w.heap.size w ((w.alloc (.cells (bookCells B ta tc sa sc) 30)).alloc (.cells #[i64 0, i64 0] 24)) := ((Below.refl _ w).alloc (Nat.le_refl _) _).alloc (by simp) _
  have hx0 : ((w.alloc (.cells (bookCells B ta tc sa sc) 30)).alloc (.cells #[i64 0, i64 0] 24)).heap[w.heap.size]? = some (.cells (bookCells B ta tc sa sc) 30 (0, 0)) := (Below.heap_alloc _ _ _ (by simp)).trans (heap_alloc_new w _)
  have hp0 : ((w.alloc (.cells (bookCells B ta tc sa sc) 30)).alloc (.cells #[i64 0, i64 0] 24)).heap[w.heap.size + 1]? = some (.cells #[i64 0, i64 0] 24 (0, 0)) := heap_alloc2_new w _ _
  have hx0l := (Array.getElem?_eq_some_iff.1 hx0).1
  have hB0 := hB.below hb0
  cases hq : hourB B hr
  · have hq := Lib.hid hq
    have hne : (askE B false != 0) = true := ask_false_ne B
    have hfin : Hid (heightR B hr = (0, 0, askE B false)) := Lib.hid (by unfold heightR; rw [hq.out, if_neg (by simpa using hne)])
    go_enter Tryd.func59, Tryd.ntmps59
    go_wp2_with fail
    refine rg_region rdHe0 pureHe0 (gHe0 B ta tc sa sc hr) BR (by kernel_rfl) (by kernel_rfl) (fun n => BR.drawn _ n) BR.refl (fun _ _ _ => BR.trans) ?_ ?_ ?_
    · intro i hi vs wA wB hG hR
      match i, hi, hG with
      | 0, _, hG => exact hG
      | 1, _, hG => exact hG
      | 2, _, hG => exact hG
      | 3, _, hG => exact hG
      | 4, _, hG => obtain ⟨b, a, l, c, h1, h2, h3⟩ := hG; exact ⟨b, a, l, c, h1, (h2.same (Same.of_below hR)).up (Below.size hR), h3⟩
      | 5, _, hG => obtain ⟨b, a, l, c, h1, h2, h3⟩ := hG; exact ⟨b, a, l, c, h1, (h2.same (Same.of_below hR)).up (Below.size hR), h3⟩
      | 6, _, hG => obtain ⟨b, a, l, c, h1, h2, h3⟩ := hG; exact ⟨b, a, l, c, h1, (h2.same (Same.of_below hR)).up (Below.size hR), h3⟩
      | 7, _, hG => exact hG
      | 8, _, hG => obtain ⟨b, a, l, c, h1, h2, h3⟩ := hG; exact ⟨b, a, l, c, h1, (h2.same (Same.of_below hR)).up (Below.size hR), h3⟩
      | 9, _, hG => exact hG
      | _ + 10, _, _ => trivial
    · intro i op ho act wA hR hF hD
      have sz : act.tmps.size = 39 := hF.size
      match i, ho, hD with
      | 0, ho, hD =>
        cases ho
        have e2 := slot_tmps (show slotOf act 2 = .pointer (some ⟨w.heap.size, 0, none⟩) from hF.slot 2 (by kernel_rfl))
        refine rgw_val (wanted_none rfl) (.agg (bookCells B ta tc sa sc)) (by exact ex_load_row (a := act) 30 (.tmp 2) rfl w.heap.size (show slotOf act 2 = .pointer (some ⟨w.heap.size, 0, none⟩) from hF.slot 2 (by kernel_rfl)) 30 _ (0, 0) _ ((Below.block hR _ hx0l).trans hx0) Tryd.underlying30 rfl (by rw [size30]; rfl)) (BR.refl _) ?_
        exact congrArg (fun v => [v]) (slotOf_same act 11 _ (by omega))
      | 1, ho, hD =>
        cases ho
        have e2 := slot_tmps (show slotOf act 2 = .pointer (some ⟨w.heap.size, 0, none⟩) from hF.slot 2 (by kernel_rfl))
        refine rgw_val (wanted_none rfl) (.agg (bookCells B ta tc sa sc)) (by exact ex_load_row (a := act) 30 (.tmp 2) rfl w.heap.size (show slotOf act 2 = .pointer (some ⟨w.heap.size, 0, none⟩) from hF.slot 2 (by kernel_rfl)) 30 _ (0, 0) _ ((Below.block hR _ hx0l).trans hx0) Tryd.underlying30 rfl (by rw [size30]; rfl)) (BR.refl _) ?_
        exact congrArg (fun v => [v]) (slotOf_same act 12 _ (by omega))
      | 2, ho, hD =>
        cases ho
        have e1 := slot_tmps (show slotOf act 1 = i64 hr from hF.slot 1 (by kernel_rfl))
        refine rgw_val (wanted_none rfl) (i64 hr) (by simp [go_sem, e1]) (BR.refl _) ?_
        exact congrArg (fun v => [v]) (slotOf_same act 13 _ (by omega))
      | 3, ho, hD =>
        cases ho
        have e12 := slot_tmps (List.cons.inj (hD 1 (by decide))).1
        have e13 := slot_tmps (List.cons.inj (hD 2 (by decide))).1
        refine rgw_call (wanted_none rfl) 86 #[bookVal B ta tc sa sc, i64 hr] (by simp [go_sem, e12, e13]) rfl ?_
        refine (isHourR_any B ta tc sa sc _ _ htl).mono ?_
        rintro e wB ⟨rfl, hb⟩
        rw [hq.out]
        exact ⟨_, rfl, hb, congrArg (fun v => [v]) (slotOf_same act 14 _ (by omega))⟩
      | 4, ho, hD =>
        cases ho
        have e11 := slot_tmps (List.cons.inj (hD 0 (by decide))).1
        have e14 := slot_tmps (List.cons.inj (hD 3 (by decide))).1
        refine rgw_call (wanted_none rfl) 88 #[bookVal B ta tc sa sc, .bool false] (by simp [go_sem, e11, e14]) rfl ?_
        refine (askedR_v (hB0.below hR) false).mono ?_
        rintro e wB ⟨b, a, l, c, rfl, hb, hC, hl⟩
        exact ⟨_, rfl, hb, b, a, l, c, congrArg (fun v => [v]) (slotOf_same act 15 _ (by omega)), hC, hl⟩
      | 5, ho, hD =>
        cases ho
        obtain ⟨b, a, l, c, dt, hC, hl⟩ := hD 4 (by decide)
        have es := slot_tmps (List.cons.inj dt).1
        refine rgw_val (wanted_none rfl) (.tuple #[.slice a (List.length l) c, i64 (askE B false)]) (by simp [go_sem, es]) (BR.refl _) ?_
        exact ⟨b, a, l, c, congrArg (fun v => [v]) (slotOf_same act 10 _ (by omega)), hC, hl⟩
      | 6, ho, hD =>
        cases ho
        obtain ⟨b, a, l, c, dt, hC, hl⟩ := hD 5 (by decide)
        have es := slot_tmps (List.cons.inj dt).1
        refine rgw_val (wanted_none rfl) (.slice a (List.length l) c) (by simp [go_sem, es]) (BR.refl _) ?_
        exact ⟨b, a, l, c, congrArg (fun v => [v]) (slotOf_same act 16 _ (by omega)), hC, hl⟩
      | 7, ho, hD =>
        cases ho
        obtain ⟨b, a, l, c, dt, hC, hl⟩ := hD 5 (by decide)
        have es := slot_tmps (List.cons.inj dt).1
        refine rgw_val (wanted_none rfl) (i64 (askE B false)) (by simp [go_sem, es]) (BR.refl _) ?_
        exact congrArg (fun v => [v]) (slotOf_same act 17 _ (by omega))
      | 8, ho, hD =>
        cases ho
        obtain ⟨b, a, l, c, dt, hC, hl⟩ := hD 6 (by decide)
        have es := slot_tmps (List.cons.inj dt).1
        refine rgw_val (wanted_none rfl) (.slice a (List.length l) c) (by simp [go_sem, es]) (BR.refl _) ?_
        exact ⟨b, a, l, c, congrArg (fun v => [v]) (slotOf_same act 6 _ (by omega)), hC, hl⟩
      | 9, ho, hD =>
        cases ho
        have e17 := slot_tmps (List.cons.inj (hD 7 (by decide))).1
        refine rgw_val (wanted_none rfl) (i64 (askE B false)) (by simp [go_sem, e17]) (BR.refl _) ?_
        exact congrArg (fun v => [v]) (slotOf_same act 7 _ (by omega))
      | _ + 10, ho, _ => cases ho
    · intro act wA hR hF hA
      have f1 : slotOf act 1 = i64 hr := hF.slot 1 (by kernel_rfl)
      have f2 : slotOf act 2 = .pointer (some ⟨w.heap.size, 0, none⟩) := hF.slot 2 (by kernel_rfl)
      have f4 : slotOf act 4 = .pointer (some ⟨w.heap.size + 1, 0, none⟩) := hF.slot 4 (by kernel_rfl)
      have f5 : slotOf act 5 = i64 0 := hF.slot 5 (by kernel_rfl)
      obtain ⟨lb, la, l, lc, d6, hC, hl⟩ := hA 8 (by decide)
      have f6 : slotOf act 6 = .slice la l.length lc := (List.cons.inj d6).1
      have f7 : slotOf act 7 = i64 (askE B false) := (List.cons.inj (hA 9 (by decide))).1
      have f11 : slotOf act 11 = .agg (bookCells B ta tc sa sc) := (List.cons.inj (hA 0 (by decide))).1
      have f12 : slotOf act 12 = .agg (bookCells B ta tc sa sc) := (List.cons.inj (hA 1 (by decide))).1
      have f13 : slotOf act 13 = i64 hr := (List.cons.inj (hA 2 (by decide))).1
      have f14 : slotOf act 14 = .bool false := (List.cons.inj (hA 3 (by decide))).1
      have f17 : slotOf act 17 = i64 (askE B false) := (List.cons.inj (hA 7 (by decide))).1
      rw [act_eta act 39 hF.size hF.defers]
      simp only [show List.range 39 = [0, 1, 2, 3, 4, 5, 6, 7, 8, 9, 10, 11, 12, 13, 14, 15, 16, 17, 18, 19, 20, 21, 22, 23, 24, 25, 26, 27, 28, 29, 30, 31, 32, 33, 34, 35, 36, 37, 38] from rfl, List.map_cons, List.map_nil, f1, f2, f4, f5, f6, f7, f11, f12, f13, f14, f17]
      clear hA hF f1 f2 f4 f5 f6 f7 f11 f12 f13 f14 f17
      have hpA := (Below.block hR _ (Array.getElem?_eq_some_iff.1 hp0).1).trans hp0
      have hpc := cells_of hpA
      have hpf := frozen_of hpA
      have hpl := (Array.getElem?_eq_some_iff.1 hpA).1
      have hset := set_two1 (set_two0 hpA (i64 0)) (i64 0)
      have hbA := hb0.trans (Below.mono hR hb0.size)
      clear hR
      go_wp2_with fail
      refine bodyPost_ret (results_cell_tmp rfl _ _ (w.heap.size + 1) 24 _ (0, 0) _ rfl hset Tryd.underlying24 rfl (by kernel_rfl)) rfl ⟨by rw [hfin.out]; rfl, ?_⟩
      exact (hbA.setCell (p := ⟨w.heap.size + 1, 0, none⟩) (Nat.le_succ _) _).setCell (p := ⟨w.heap.size + 1, 1, none⟩) (Nat.le_succ _) _
  · have hq := Lib.hid hq
    go_enter Tryd.func59, Tryd.ntmps59
    go_wp2_with fail
    refine rg_region rdHe1 pureHe1 (gHe1 B ta tc sa sc hr) BR (by kernel_rfl) (by kernel_rfl) (fun n => BR.drawn _ n) BR.refl (fun _ _ _ => BR.trans) ?_ ?_ ?_
    · intro i hi vs wA wB hG hR
      match i, hi, hG with
      | 0, _, hG => exact hG
      | 1, _, hG => exact hG
      | 2, _, hG => exact hG
      | 3, _, hG => exact hG
      | 4, _, hG => obtain ⟨b, a, l, c, h1, h2, h3⟩ := hG; exact ⟨b, a, l, c, h1, (h2.same (Same.of_below hR)).up (Below.size hR), h3⟩
      | 5, _, hG => obtain ⟨b, a, l, c, h1, h2, h3⟩ := hG; exact ⟨b, a, l, c, h1, (h2.same (Same.of_below hR)).up (Below.size hR), h3⟩
      | 6, _, hG => obtain ⟨b, a, l, c, h1, h2, h3⟩ := hG; exact ⟨b, a, l, c, h1, (h2.same (Same.of_below hR)).up (Below.size hR), h3⟩
      | 7, _, hG => exact hG
      | 8, _, hG => obtain ⟨b, a, l, c, h1, h2, h3⟩ := hG; exact ⟨b, a, l, c, h1, (h2.same (Same.of_below hR)).up (Below.size hR), h3⟩
      | 9, _, hG => exact hG
      | _ + 10, _, _ => trivial
    · intro i op ho act wA hR hF hD
      have sz : act.tmps.size = 39 := hF.size
      match i, ho, hD with
      | 0, ho, hD =>
        cases ho
        have e2 := slot_tmps (show slotOf act 2 = .pointer (some ⟨w.heap.size, 0, none⟩) from hF.slot 2 (by kernel_rfl))
        refine rgw_val (wanted_none rfl) (.agg (bookCells B ta tc sa sc)) (by exact ex_load_row (a := act) 30 (.tmp 2) rfl w.heap.size (show slotOf act 2 = .pointer (some ⟨w.heap.size, 0, none⟩) from hF.slot 2 (by kernel_rfl)) 30 _ (0, 0) _ ((Below.block hR _ hx0l).trans hx0) Tryd.underlying30 rfl (by rw [size30]; rfl)) (BR.refl _) ?_
        exact congrArg (fun v => [v]) (slotOf_same act 11 _ (by omega))
      | 1, ho, hD =>
        cases ho
        have e2 := slot_tmps (show slotOf act 2 = .pointer (some ⟨w.heap.size, 0, none⟩) from hF.slot 2 (by kernel_rfl))
        refine rgw_val (wanted_none rfl) (.agg (bookCells B ta tc sa sc)) (by exact ex_load_row (a := act) 30 (.tmp 2) rfl w.heap.size (show slotOf act 2 = .pointer (some ⟨w.heap.size, 0, none⟩) from hF.slot 2 (by kernel_rfl)) 30 _ (0, 0) _ ((Below.block hR _ hx0l).trans hx0) Tryd.underlying30 rfl (by rw [size30]; rfl)) (BR.refl _) ?_
        exact congrArg (fun v => [v]) (slotOf_same act 12 _ (by omega))
      | 2, ho, hD =>
        cases ho
        have e1 := slot_tmps (show slotOf act 1 = i64 hr from hF.slot 1 (by kernel_rfl))
        refine rgw_val (wanted_none rfl) (i64 hr) (by simp [go_sem, e1]) (BR.refl _) ?_
        exact congrArg (fun v => [v]) (slotOf_same act 13 _ (by omega))
      | 3, ho, hD =>
        cases ho
        have e12 := slot_tmps (List.cons.inj (hD 1 (by decide))).1
        have e13 := slot_tmps (List.cons.inj (hD 2 (by decide))).1
        refine rgw_call (wanted_none rfl) 86 #[bookVal B ta tc sa sc, i64 hr] (by simp [go_sem, e12, e13]) rfl ?_
        refine (isHourR_any B ta tc sa sc _ _ htl).mono ?_
        rintro e wB ⟨rfl, hb⟩
        rw [hq.out]
        exact ⟨_, rfl, hb, congrArg (fun v => [v]) (slotOf_same act 14 _ (by omega))⟩
      | 4, ho, hD =>
        cases ho
        have e11 := slot_tmps (List.cons.inj (hD 0 (by decide))).1
        have e14 := slot_tmps (List.cons.inj (hD 3 (by decide))).1
        refine rgw_call (wanted_none rfl) 88 #[bookVal B ta tc sa sc, .bool true] (by simp [go_sem, e11, e14]) rfl ?_
        refine (askedR_v (hB0.below hR) true).mono ?_
        rintro e wB ⟨b, a, l, c, rfl, hb, hC, hl⟩
        exact ⟨_, rfl, hb, b, a, l, c, congrArg (fun v => [v]) (slotOf_same act 15 _ (by omega)), hC, hl⟩
      | 5, ho, hD =>
        cases ho
        obtain ⟨b, a, l, c, dt, hC, hl⟩ := hD 4 (by decide)
        have es := slot_tmps (List.cons.inj dt).1
        refine rgw_val (wanted_none rfl) (.tuple #[.slice a (List.length l) c, i64 (askE B true)]) (by simp [go_sem, es]) (BR.refl _) ?_
        exact ⟨b, a, l, c, congrArg (fun v => [v]) (slotOf_same act 10 _ (by omega)), hC, hl⟩
      | 6, ho, hD =>
        cases ho
        obtain ⟨b, a, l, c, dt, hC, hl⟩ := hD 5 (by decide)
        have es := slot_tmps (List.cons.inj dt).1
        refine rgw_val (wanted_none rfl) (.slice a (List.length l) c) (by simp [go_sem, es]) (BR.refl _) ?_
        exact ⟨b, a, l, c, congrArg (fun v => [v]) (slotOf_same act 16 _ (by omega)), hC, hl⟩
      | 7, ho, hD =>
        cases ho
        obtain ⟨b, a, l, c, dt, hC, hl⟩ := hD 5 (by decide)
        have es := slot_tmps (List.cons.inj dt).1
        refine rgw_val (wanted_none rfl) (i64 (askE B true)) (by simp [go_sem, es]) (BR.refl _) ?_
        exact congrArg (fun v => [v]) (slotOf_same act 17 _ (by omega))
      | 8, ho, hD =>
        cases ho
        obtain ⟨b, a, l, c, dt, hC, hl⟩ := hD 6 (by decide)
        have es := slot_tmps (List.cons.inj dt).1
        refine rgw_val (wanted_none rfl) (.slice a (List.length l) c) (by simp [go_sem, es]) (BR.refl _) ?_
        exact ⟨b, a, l, c, congrArg (fun v => [v]) (slotOf_same act 6 _ (by omega)), hC, hl⟩
      | 9, ho, hD =>
        cases ho
        have e17 := slot_tmps (List.cons.inj (hD 7 (by decide))).1
        refine rgw_val (wanted_none rfl) (i64 (askE B true)) (by simp [go_sem, e17]) (BR.refl _) ?_
        exact congrArg (fun v => [v]) (slotOf_same act 7 _ (by omega))
      | _ + 10, ho, _ => cases ho
    · intro act wA hR hF hA
      have f1 : slotOf act 1 = i64 hr := hF.slot 1 (by kernel_rfl)
      have f2 : slotOf act 2 = .pointer (some ⟨w.heap.size, 0, none⟩) := hF.slot 2 (by kernel_rfl)
      have f4 : slotOf act 4 = .pointer (some ⟨w.heap.size + 1, 0, none⟩) := hF.slot 4 (by kernel_rfl)
      have f5 : slotOf act 5 = i64 0 := hF.slot 5 (by kernel_rfl)
      obtain ⟨lb, la, l, lc, d6, hC, hl⟩ := hA 8 (by decide)
      have f6 : slotOf act 6 = .slice la l.length lc := (List.cons.inj d6).1
      have f7 : slotOf act 7 = i64 (askE B true) := (List.cons.inj (hA 9 (by decide))).1
      have f11 : slotOf act 11 = .agg (bookCells B ta tc sa sc) := (List.cons.inj (hA 0 (by decide))).1
      have f12 : slotOf act 12 = .agg (bookCells B ta tc sa sc) := (List.cons.inj (hA 1 (by decide))).1
      have f13 : slotOf act 13 = i64 hr := (List.cons.inj (hA 2 (by decide))).1
      have f14 : slotOf act 14 = .bool true := (List.cons.inj (hA 3 (by decide))).1
      have f17 : slotOf act 17 = i64 (askE B true) := (List.cons.inj (hA 7 (by decide))).1
      rw [act_eta act 39 hF.size hF.defers]
      simp only [show List.range 39 = [0, 1, 2, 3, 4, 5, 6, 7, 8, 9, 10, 11, 12, 13, 14, 15, 16, 17, 18, 19, 20, 21, 22, 23, 24, 25, 26, 27, 28, 29, 30, 31, 32, 33, 34, 35, 36, 37, 38] from rfl, List.map_cons, List.map_nil, f1, f2, f4, f5, f6, f7, f11, f12, f13, f14, f17]
      clear hA hF f1 f2 f4 f5 f6 f7 f11 f12 f13 f14 f17
      by_cases ha : askE B true = 0
      · obtain rfl := hl ha
        have hne : (askE B true != 0) = false := by rw [ha]; rfl
        have hVd := valid_iff.1 (ask_zero ha).1
        have hcc : ∃ f, CC B [] f := (ask_cases (ask_zero ha).1).elim (fun h => by rw [h.2] at ha; cases ha) (fun h => h.1)
        have hVl := cans25 hVd
        obtain ⟨mn, hmn⟩ : ∃ mn, minL (heightL B hr) = mn := ⟨_, rfl⟩
        obtain ⟨mx, hmx⟩ : ∃ mx, maxL ((heightL B hr).head?.getD 0) (heightL B hr) = mx := ⟨_, rfl⟩
        have hfin : Hid (heightR B hr = (mn, mx, 0)) := Lib.hid (by unfold heightR; rw [hq.out, if_pos ha, hmn, hmx])
        replace hmn := Lib.hid hmn
        replace hmx := Lib.hid hmx
        have hh := inB_iff.1 hq.out
        have hh0 : 0 ≤ hr := hh.1
        have hh1 : hr < B.tides.length := by omega
        have hhts := htsR_len hVd hh0 hh1
        have hnn : heightL B hr ≠ [] := fun h => by
          obtain ⟨f, hf⟩ := hcc
          obtain ⟨x, hx⟩ := hf.height hh0 hh1
          have := mem_heightL.2 ⟨f, hf, hx⟩
          rw [h] at this
          cases this
        have hHl : (heightL B hr).length ≤ 125 := Nat.le_trans (flat_len (cansB B) (hts B hr) 5 hhts) (by omega)
        have hHlk := fun k => flat_len ((cansB B).take k) (hts B hr) 5 hhts
        have haH := Lib.hid ha
        clear ha hh
        have hxA := (Below.block hR _ hx0l).trans hx0
        have hpA := (Below.block hR _ (Array.getElem?_eq_some_iff.1 hp0).1).trans hp0
        have hbA := hb0.trans (Below.mono hR hb0.size)
        have hBA := hB0.below hR
        obtain ⟨z, hze⟩ : ∃ z, wA.heap.size = z := ⟨_, rfl⟩
        have hzA : z ≤ wA.heap.size := Nat.le_of_eq hze.symm
        have hpz := (Array.getElem?_eq_some_iff.1 hpA).1
        have hxz := (Array.getElem?_eq_some_iff.1 hxA).1
        rw [hze] at hpz hxz
        have hCz : CansAt z wA lb 0 la (cansB B) := hze ▸ hC
        have hBz : ∀ W, Below z wA W → BookV W (bookVal B ta tc sa sc) B := fun W h => hBA.below (hze ▸ h)
        clear hze hR hC
        go_wp2_with fail
        refine wp_loop (fun act W => ∃ (k : Nat) (v : Value), k ≤ (cansB B).length ∧ HeI w B hr la lc z k v act wA W) (fun act _ => (cansB B).length - (intOf (slotOf act 9)).toNat) ?_ ?_
        · exact ⟨0, .slice none 0 0, Nat.zero_le _, rfl, rfl, rfl, rfl, rfl, rfl, rfl, rfl, hzA, ⟨rfl, rfl, rfl, Nat.le_refl _, fun _ _ => rfl⟩, World.ownsRow_nil _ _ _ _⟩
        · rintro act W9 ⟨k, v, hk, hsz, hdf, s1, s2, s4, s6, s8, s9, hz9, hb9, hown⟩
          rw [act_eta act 39 hsz hdf]
          simp only [show List.range 39 = [0, 1, 2, 3, 4, 5, 6, 7, 8, 9, 10, 11, 12, 13, 14, 15, 16, 17, 18, 19, 20, 21, 22, 23, 24, 25, 26, 27, 28, 29, 30, 31, 32, 33, 34, 35, 36, 37, 38] from rfl, List.map_cons, List.map_nil, s1, s2, s4, s6, s8, s9]
          by_cases hlt : k < (cansB B).length
          · have hlt' : (k : Int) < ((cansB B).length : Int) := by omega
            have hC9 := hCz.same ⟨Nat.le_trans hb9.size (Nat.le_refl _), fun j hj => hb9.block j hj⟩
            have hB9 := hBz _ hb9
            have hi111 : ∀ W, (Instr.indexAt 111 (.slice la (cansB B).length lc) (.int .i64 (k : Int))).run Tryd.prog W = .ok (.pointer (some ⟨lb, k * 2, none⟩)) W := fun W => by simpa using idx111 W (hC9.at_ (ne_nil_of_lt hlt)) hlt
            have hsucc := Lib.hid (show ((cansB B).take (k + 1)).flatMap (hts B hr) = ((cansB B).take k).flatMap (hts B hr) ++ hts B hr (cansB B)[k] by rw [List.take_succ_eq_append_getElem hlt, List.flatMap_append]; simp)
            obtain ⟨p0, p1, hfe⟩ : ∃ p0 p1, Hid ((cansB B)[k] = (p0, p1)) := ⟨_, _, Lib.hid rfl⟩
            have hfm : CC B [] (p0, p1) := mem_cansB.1 (hfe.out ▸ List.getElem_mem hlt)
            have hf0 : -1000 ≤ p0 ∧ p0 ≤ 1000 := by have := hfm.1; have := hVd.sh0.fl; have := hVd.sh0.fh; simp only at *; omega
            have hf1 : -1000 ≤ p1 ∧ p1 ≤ 1000 := by have := hfm.2.1; have := hVd.sh1.fl; have := hVd.sh1.fh; simp only at *; omega
            have hnn2 : hts B hr (p0, p1) ≠ [] := by obtain ⟨x, hx⟩ := hfm.height hh0 hh1; exact List.ne_nil_of_mem (mem_hts.2 hx)
            have hl5 := hhts (p0, p1)
            have hlk := hHlk k
            have hlk2 : ((cansB B).take k).length ≤ 25 := by rw [List.length_take]; omega
            have hx9 := (hb9.block _ hxz).trans hxA
            have hx9l := (Array.getElem?_eq_some_iff.1 hx9).1
            rw [hfe.out] at hsucc
            clear hnn
            have hnn := hnn2
            go_wp2_with fail
            refine rl_region2 8 rdHe8 pureHe8 (gHe8 B ta tc sa sc la lc lb k v hr p0 p1) BR (by kernel_rfl) (by kernel_rfl) (by kernel_rfl) (by kernel_rfl) (by kernel_rfl) (by kernel_rfl) (fun n => BR.drawn _ n) BR.refl (fun _ _ _ => BR.trans) ?_ ?_ ?_
            · intro i _ hi vs wA wB hG hR
              match i, hi, hG with
              | 0, _, hG => exact hG
              | 1, _, hG => exact hG
              | 2, _, hG => exact hG
              | 3, _, hG => exact hG
              | 4, _, hG => exact hG
              | 5, _, hG => exact hG
              | 6, _, hG => exact hG
              | 7, _, hG => obtain ⟨v, h1, h2⟩ := hG; exact ⟨v, h1, h2.below hR⟩
              | _ + 8, _, _ => trivial
            · intro i op hin ho act wA hR hF hD
              have sz : act.tmps.size = 39 := hF.size
              match i, hin, ho, hD with
              | 0, _, ho, hD =>
                cases ho
                have e8 := slot_tmps (show slotOf act 8 = v from hF.slot 8 (by kernel_rfl))
                refine rgw_val (wanted_none rfl) (v) (by simp [go_sem, e8]) (BR.refl _) ?_
                exact congrArg (fun v => [v]) (slotOf_same act 28 _ (by omega))
              | 1, _, ho, hD =>
                cases ho
                have e2 := slot_tmps (show slotOf act 2 = .pointer (some ⟨w.heap.size, 0, none⟩) from hF.slot 2 (by kernel_rfl))
                refine rgw_val (wanted_none rfl) (.agg (bookCells B ta tc sa sc)) (by exact ex_load_row (a := act) 30 (.tmp 2) rfl w.heap.size (show slotOf act 2 = .pointer (some ⟨w.heap.size, 0, none⟩) from hF.slot 2 (by kernel_rfl)) 30 _ (0, 0) _ ((Below.block hR _ hx9l).trans hx9) Tryd.underlying30 rfl (by rw [size30]; rfl)) (BR.refl _) ?_
                exact congrArg (fun v => [v]) (slotOf_same act 29 _ (by omega))
              | 2, _, ho, hD =>
                cases ho
                have e6 := slot_tmps (show slotOf act 6 = .slice la (cansB B).length lc from hF.slot 6 (by kernel_rfl))
                refine rgw_val (wanted_none rfl) (.slice la (cansB B).length lc) (by simp [go_sem, e6]) (BR.refl _) ?_
                exact congrArg (fun v => [v]) (slotOf_same act 30 _ (by omega))
              | 3, _, ho, hD =>
                cases ho
                have e9 := slot_tmps (show slotOf act 9 = i64 k from hF.slot 9 (by kernel_rfl))
                refine rgw_val (wanted_none rfl) (i64 k) (by simp [go_sem, e9]) (BR.refl _) ?_
                exact congrArg (fun v => [v]) (slotOf_same act 31 _ (by omega))
              | 4, _, ho, hD =>
                cases ho
                have e30 := slot_tmps (List.cons.inj (hD 2 (by decide))).1
                have e31 := slot_tmps (List.cons.inj (hD 3 (by decide))).1
                refine rgw_val (wanted_none rfl) (.pointer (some ⟨lb, k * 2, none⟩)) (by simp [go_sem, e30, e31, hi111]) (BR.refl _) ?_
                exact congrArg (fun v => [v]) (slotOf_same act 32 _ (by omega))
              | 5, _, ho, hD =>
                cases ho
                have e32 := slot_tmps (List.cons.inj (hD 4 (by decide))).1
                have hCA := hC9.same (Same.of_below (Below.mono hR hz9))
                have c1 := hCA.fst k hlt
                have c2 := hCA.snd k hlt
                rw [Nat.zero_add] at c1 c2
                rw [hfe.out] at c1 c2
                refine rgw_val (wanted_none rfl) (.agg #[i64 p0, i64 p1]) (by simp [go_sem, e32, c1, c2]) (BR.refl _) ?_
                exact congrArg (fun v => [v]) (slotOf_same act 33 _ (by omega))
              | 6, _, ho, hD =>
                cases ho
                have e1 := slot_tmps (show slotOf act 1 = i64 hr from hF.slot 1 (by kernel_rfl))
                refine rgw_val (wanted_none rfl) (i64 hr) (by simp [go_sem, e1]) (BR.refl _) ?_
                exact congrArg (fun v => [v]) (slotOf_same act 34 _ (by omega))
              | 7, _, ho, hD =>
                cases ho
                have e29 := slot_tmps (List.cons.inj (hD 1 (by decide))).1
                have e33 := slot_tmps (List.cons.inj (hD 5 (by decide))).1
                have e34 := slot_tmps (List.cons.inj (hD 6 (by decide))).1
                refine rgw_call (wanted_none rfl) 89 #[bookVal B ta tc sa sc, .agg #[i64 p0, i64 p1], i64 hr] (by simp [go_sem, e29, e33, e34]) rfl ?_
                refine (heightsR_v (hB9.below hR) hVd hh0 hh1 hf0 hf1).mono ?_
                rintro e wB ⟨v, rfl, hb, hL⟩
                exact ⟨_, rfl, hb, v, congrArg (fun v => [v]) (slotOf_same act 35 _ (by omega)), hL⟩
              | _ + 8, hin, _, _ => exact absurd hin (by omega)
            · intro act wA hR hF hA
              have f1 : slotOf act 1 = i64 hr := hF.slot 1 (by kernel_rfl)
              have f2 : slotOf act 2 = .pointer (some ⟨w.heap.size, 0, none⟩) := hF.slot 2 (by kernel_rfl)
              have f4 : slotOf act 4 = .pointer (some ⟨w.heap.size + 1, 0, none⟩) := hF.slot 4 (by kernel_rfl)
              have f6 : slotOf act 6 = .slice la (cansB B).length lc := hF.slot 6 (by kernel_rfl)
              have f8 : slotOf act 8 = v := hF.slot 8 (by kernel_rfl)
              have f9 : slotOf act 9 = i64 k := hF.slot 9 (by kernel_rfl)
              have f28 : slotOf act 28 = v := (List.cons.inj (hA 0 (by decide))).1
              have f29 : slotOf act 29 = .agg (bookCells B ta tc sa sc) := (List.cons.inj (hA 1 (by decide))).1
              have f30 : slotOf act 30 = .slice la (cansB B).length lc := (List.cons.inj (hA 2 (by decide))).1
              have f31 : slotOf act 31 = i64 k := (List.cons.inj (hA 3 (by decide))).1
              have f32 : slotOf act 32 = .pointer (some ⟨lb, k * 2, none⟩) := (List.cons.inj (hA 4 (by decide))).1
              have f33 : slotOf act 33 = .agg #[i64 p0, i64 p1] := (List.cons.inj (hA 5 (by decide))).1
              have f34 : slotOf act 34 = i64 hr := (List.cons.inj (hA 6 (by decide))).1
              obtain ⟨hv, d35, hLv⟩ := hA 7 (by decide)
              obtain ⟨jb, jo, ja, jc, rfl, _, hJ⟩ := hLv
              have f35 : slotOf act 35 = .slice ja (hts B hr (p0, p1)).length jc := (List.cons.inj d35).1
              rw [act_eta act 39 hF.size hF.defers]
              simp only [show List.range 39 = [0, 1, 2, 3, 4, 5, 6, 7, 8, 9, 10, 11, 12, 13, 14, 15, 16, 17, 18, 19, 20, 21, 22, 23, 24, 25, 26, 27, 28, 29, 30, 31, 32, 33, 34, 35, 36, 37, 38] from rfl, List.map_cons, List.map_nil, f1, f2, f4, f6, f8, f9, f28, f29, f30, f31, f32, f33, f34, f35]
              clear hA hF f1 f2 f4 f6 f8 f9 f28 f29 f30 f31 f32 f33 f34 f35
              simp only [List.drop_succ_cons, List.drop_zero]
              obtain rfl := hJ.at_ hnn
              have hownA := ownsRow_below hown hR
              have hzA := Nat.le_trans hz9 (Below.size hR)
              have hbA := hb9.trans (Below.mono hR hz9)
              obtain ⟨i0, hi, hi1, hi2, hi3⟩ := info_parts info3'
              have hnews : ∀ j u, ((hts B hr (p0, p1)).map i64)[j]? = some u → wA.cell? ((⟨jb, jo, none⟩ : Addr).add j) = some u := fun j u hu => by
                rw [addr_add2]
                rw [List.getElem?_map] at hu
                obtain ⟨y, hy, rfl⟩ := Option.map_eq_some_iff.1 hu
                obtain ⟨hjl, rfl⟩ := List.getElem?_eq_some_iff.1 hy
                exact hJ.cell j hjl
              have hone : ∀ u ∈ (hts B hr (p0, p1)).map i64, u.oneCell' = true := fun u hu => by obtain ⟨y, _, rfl⟩ := List.mem_map.1 hu; rfl
              refine wpList_append_own _ rfl _ _ 40 rfl z 3 i0 (i64 0) 1 8 Tryd.underlying40 hi hi1 hi2 hi3 rfl (by decide) v _ _ rfl hownA ⟨jb, jo, none⟩ (hts B hr (p0, p1)).length jc ((hts B hr (p0, p1)).map i64) rfl (by simp) hnews hone (by unfold maxLen; omega) (by omega) hzA ?_
              intro v' w2 hown' hgrow _
              have hb2 := hbA.grown hgrow (by omega) (fun j e => by have := (hownA.lt _ e).1; omega)
              have hz2 := Nat.le_trans hzA hgrow.size
              clear hR hJ hnews hone hownA hgrow
              go_wp2_with fail
              refine ⟨⟨k + 1, v', by omega, rfl, rfl, rfl, rfl, rfl, rfl, rfl, congrArg (Value.int .i64) (Int.natCast_succ k).symm, hz2, hb2, by rw [hsucc.out, List.length_append, List.map_append]; exact hown'⟩, ?_⟩
              show (cansB B).length - ((k : Int) + 1).toNat < (cansB B).length - (k : Int).toNat
              omega
          · have hlt' : ¬ (k : Int) < ((cansB B).length : Int) := by omega
            obtain rfl : k = (cansB B).length := by omega
            rw [List.take_length] at hown
            have hLV : ListV W9 v (heightL B hr) := ListV.of_row (base := z) hown (by omega)
            have hp9 := (hb9.block _ hpz).trans hpA
            have hbw9 := hbA.trans (hb9.mono (by omega))
            go_wp2_with fail
            have hE : Calls Tryd.prog 90 #[v] W9 (fun e w' => e = .returned (.agg #[i64 mn, i64 mx]) ∧ Below W9.heap.size W9 w') := by
              have h := endsR_v hLV hnn (by omega)
              unfold EndsPost at h
              rw [hmn.out, hmx.out] at h
              exact h
            refine hE.mono ?_
            rintro e w2 ⟨rfl, hb2⟩
            have hp2 := (hb2.block _ (Array.getElem?_eq_some_iff.1 hp9).1).trans hp9
            have hpc := cells_of hp2
            have hpf := frozen_of hp2
            have hpl := (Array.getElem?_eq_some_iff.1 hp2).1
            have hset := set_two1 (set_two0 hp2 (i64 mn)) (i64 mx)
            have hbw2 := hbw9.trans (hb2.mono hbw9.size)
            go_wp2_with fail
            refine bodyPost_ret (results_cell_tmp rfl _ _ (w.heap.size + 1) 24 _ (0, 0) _ rfl hset Tryd.underlying24 rfl (by kernel_rfl)) rfl ⟨by rw [hfin.out]; rfl, ?_⟩
            exact (hbw2.setCell (p := ⟨w.heap.size + 1, 0, none⟩) (Nat.le_succ _) _).setCell (p := ⟨w.heap.size + 1, 1, none⟩) (Nat.le_succ _) _
      · have hne : (askE B true != 0) = true := by simpa using ha
        have hfin : Hid (heightR B hr = (0, 0, askE B true)) := Lib.hid (by unfold heightR; rw [hq.out, if_neg ha])
        clear ha
        have hpA := (Below.block hR _ (Array.getElem?_eq_some_iff.1 hp0).1).trans hp0
        have hpc := cells_of hpA
        have hpf := frozen_of hpA
        have hpl := (Array.getElem?_eq_some_iff.1 hpA).1
        have hset := set_two1 (set_two0 hpA (i64 0)) (i64 0)
        have hbA := hb0.trans (Below.mono hR hb0.size)
        clear hR
        go_wp2_with fail
        refine bodyPost_ret (results_cell_tmp rfl _ _ (w.heap.size + 1) 24 _ (0, 0) _ rfl hset Tryd.underlying24 rfl (by kernel_rfl)) rfl ⟨by rw [hfin.out]; rfl, ?_⟩
        exact (hbA.setCell (p := ⟨w.heap.size + 1, 0, none⟩) (Nat.le_succ _) _).setCell (p := ⟨w.heap.size + 1, 1, none⟩) (Nat.le_succ _) _
theorem heightRef_v {B : Book} {v : Value} {w : World} (hB : BookV w v B) (hr : Int) : Calls Tryd.prog 59 #[v, i64 hr] w (HeightPost B hr w) := by
  obtain ⟨tb, tq, ta, tc, sb, sq, sa, sc, rfl, hT, hS⟩ := hB
  exact heightRef_any B ta tc sa sc hr w ⟨tb, tq, ta, tc, sb, sq, sa, sc, rfl, hT, hS⟩ hT.len
end Go.Proofs.YtkbmpkdflgimmaaDoor
