/- The contract of truly: what is so, as numbers choose it. (Printed by gentruly.py.) -/
import Derived.Test.YtkbmpkdflgimmaaDoorTrue1
namespace Go.Proofs.YtkbmpkdflgimmaaDoor
open Go.RowKit Go.Shelf

theorem size43 : (Tryd.prog.info? 43).map (·.size) = some 4 := by kernel_rfl
section
variable {ops : Array Oper} {rest : List Oper} {o : Oper} {a : Act} {w : World} {Q : Exit → Act → World → Prop}
theorem ld43 (hgd : o.guard = none) (x : Operand) (ho : o.op = .load 43 x) (g : Nat) (cs : Array Value) (hx : a.eval x = .pointer (some ⟨g, 0, none⟩)) (hg : w.heap[g]? = some (.cells cs 43 (0, 0))) (hs : cs.size = 4)
    (h : wpList Tryd.prog ops Q rest (a.put o.dst (.agg cs)) w) : wpList Tryd.prog ops Q (o :: rest) a w :=
  wpList_load_row hgd 43 x ho g hx 43 cs (0, 0) _ hg Tryd.underlying43 rfl (by rw [size43, hs]) h
theorem st43 (hgd : o.guard = none) (x y : Operand) (ho : o.op = .store 43 x y) (g : Nat) (cs old : Array Value) (hx : a.eval x = .pointer (some ⟨g, 0, none⟩)) (hy : a.eval y = .agg cs) (hg : w.heap[g]? = some (.cells old 43 (0, 0))) (hs : cs.size = 4) (ho' : old.size = 4) (h1 : cs.all (·.oneCell') = true)
    (h : wpList Tryd.prog ops Q rest (a.put o.dst undef) (w.setRow g cs)) : wpList Tryd.prog ops Q (o :: rest) a w :=
  wpList_store_row hgd 43 x y ho g cs hx hy 43 old hg (by rw [size43, hs]) (by rw [hs, ho']) h1 h
end
/-- How high the water is in the first hours, as numbers choose it. -/
def hsK (B : Book) (bits : List Int) (k : Nat) : List Int := (List.range k).map fun (h : Nat) => withinI (tideAt B h).lo (tideAt B h).hi (IntKind.i64.wrap (chooseI bits h + IntKind.i64.wrap (h * chooseI bits 1)))
theorem hsK_succ (B : Book) (bits : List Int) (k : Nat) : hsK B bits (k + 1) = hsK B bits k ++ [withinI (tideAt B k).lo (tideAt B k).hi (IntKind.i64.wrap (chooseI bits k + IntKind.i64.wrap (k * chooseI bits 1)))] := by
  simp [hsK, List.range_succ]
theorem hsK_len (B : Book) (bits : List Int) (k : Nat) : (hsK B bits k).length = k := by simp [hsK]
theorem truth_of (B : Book) (bits : List Int) (hV : Vld B) : Truth B (hsK B bits B.tides.length) (withinI B.s0.fl B.s0.fh (chooseI bits 0), withinI B.s1.fl B.s1.fh (chooseI bits 1)) (withinI B.el B.eh (chooseI bits 2)) := by
  refine ⟨hsK_len _ _ _, fun k hk => ?_, withinI_range hV.sh0.ff, withinI_range hV.sh1.ff, withinI_range hV.ee⟩
  have ht := hV.tides _ (List.getElem_mem hk)
  rw [← tideAt_nat hk] at ht
  have : (hsK B bits B.tides.length).getD k 0 = withinI (tideAt B k).lo (tideAt B k).hi (IntKind.i64.wrap (chooseI bits k + IntKind.i64.wrap (k * chooseI bits 1))) := by
    rw [List.getD_eq_getElem?_getD, List.getElem?_eq_getElem (by rw [hsK_len]; exact hk)]
    simp [hsK]
  rw [this]
  exact withinI_range ht.2.1
def TrulyPost (B : Book) (bits : List Int) (w : World) (e : Ending) (w' : World) : Prop := ∃ hv, e = .returned (.agg #[hv, i64 (withinI B.s0.fl B.s0.fh (chooseI bits 0)), i64 (withinI B.s1.fl B.s1.fh (chooseI bits 1)), i64 (withinI B.el B.eh (chooseI bits 2))]) ∧ Below w.heap.size w w' ∧ ListV w' hv (hsK B bits B.tides.length)
/-- What the loop's rounds keep. -/
structure TruI (w : World) (B : Book) (bits : List Int) (ta : Option Addr) (tc : Nat) (sa : Option Addr) (sc : Nat) (ba : Option Addr) (bc g z k : Nat) (v : Value) (a : Act) (W : World) : Prop where
  size : a.tmps.size = 55
  defers : a.defers = []
  s1 : slotOf a 1 = .slice ba bits.length bc
  s2 : slotOf a 2 = .pointer (some ⟨w.heap.size, 0, none⟩)
  s4 : slotOf a 4 = .pointer (some ⟨w.heap.size + 1, 0, none⟩)
  s5 : slotOf a 5 = .pointer (some ⟨g, 0, none⟩)
  s6 : slotOf a 6 = i64 k
  hz : z ≤ W.heap.size
  hb : Below w.heap.size w W
  hx : W.heap[w.heap.size]? = some (.cells (bookCells B ta tc sa sc) 30 (0, 0))
  hr : W.heap[w.heap.size + 1]? = some (.cells #[.slice none 0 0, i64 0, i64 0, i64 0] 43 (0, 0))
  hg : W.heap[g]? = some (.cells #[v, i64 (withinI B.s0.fl B.s0.fh (chooseI bits 0)), i64 (withinI B.s1.fl B.s1.fh (chooseI bits 1)), i64 (withinI B.el B.eh (chooseI bits 2))] 43 (0, 0))
  own : W.ownsRow z 3 1 v k ((hsK B bits k).map i64)
theorem info3' : (Tryd.prog.info? 3).map (fun i => (i.zero, i.size, i.bytes)) = some (some (i64 0), 1, 8) := by kernel_rfl
def rdTr1 (i : Nat) : List Nat := match i with
  | 0 => [7] | 1 => [8] | 2 => [9] | 3 => [10] | 4 => [11] | 5 => [12] | 6 => [13] | 7 => [14] | 8 => [15] | 9 => [16] | 10 => [17] | 11 => [18] | 12 => [19] | 13 => [20] | 14 => [21] | 15 => [22] | 16 => [23] | 17 => [24] | 18 => [25] | 19 => [26] | 20 => [27] | 21 => [5] | _ => []
def pureTr1 (i : Nat) : Bool := match i with
  | 5 => false | 6 => false | 12 => false | 13 => false | 18 => false | 19 => false | 21 => false | _ => true
def gTr1 (w : World) (B : Book) (bits : List Int) (ba : Option Addr) (bc : Nat) (i : Nat) (vs : List Value) (W : World) : Prop := match i with
  | 0 => vs = [.pointer (some ⟨w.heap.size, 1, none⟩)]
  | 1 => vs = [.pointer (some ⟨w.heap.size, 1, none⟩)]
  | 2 => vs = [.pointer (some ⟨w.heap.size, 1, none⟩)]
  | 3 => vs = [.agg #[i64 B.s0.fl, i64 B.s0.fh]]
  | 4 => vs = [.slice ba bits.length bc]
  | 5 => vs = [i64 (chooseI bits 0)]
  | 6 => vs = [i64 (withinI B.s0.fl B.s0.fh (chooseI bits 0))]
  | 7 => vs = [.pointer (some ⟨w.heap.size, 1, none⟩)]
  | 8 => vs = [.pointer (some ⟨w.heap.size, 5, none⟩)]
  | 9 => vs = [.pointer (some ⟨w.heap.size, 5, none⟩)]
  | 10 => vs = [.agg #[i64 B.s1.fl, i64 B.s1.fh]]
  | 11 => vs = [.slice ba bits.length bc]
  | 12 => vs = [i64 (chooseI bits 1)]
  | 13 => vs = [i64 (withinI B.s1.fl B.s1.fh (chooseI bits 1))]
  | 14 => vs = [.agg #[i64 (withinI B.s0.fl B.s0.fh (chooseI bits 0)), i64 (withinI B.s1.fl B.s1.fh (chooseI bits 1))]]
  | 15 => vs = [.pointer (some ⟨w.heap.size, 9, none⟩)]
  | 16 => vs = [.agg #[i64 B.el, i64 B.eh]]
  | 17 => vs = [.slice ba bits.length bc]
  | 18 => vs = [i64 (chooseI bits 2)]
  | 19 => vs = [i64 (withinI B.el B.eh (chooseI bits 2))]
  | 20 => vs = [.agg #[.slice none 0 0, i64 (withinI B.s0.fl B.s0.fh (chooseI bits 0)), i64 (withinI B.s1.fl B.s1.fh (chooseI bits 1)), i64 (withinI B.el B.eh (chooseI bits 2))]]
  | 21 => ∃ g, vs = [.pointer (some ⟨g, 0, none⟩)] ∧ (w.heap.size + 2) ≤ g ∧ W.heap[g]? = some (.cells #[.slice none 0 0, i64 0, i64 0, i64 0] 43 (0, 0))
  | _ => True
def rdTr5 (i : Nat) : List Nat := match i with
  | 0 => [35] | 1 => [36] | 2 => [37] | 3 => [38] | 4 => [39] | 5 => [40] | 6 => [41] | 7 => [42] | 8 => [43] | 9 => [44] | 10 => [45] | 11 => [46] | 12 => [47] | 13 => [48] | 14 => [49] | 15 => [50] | 16 => [51] | _ => []
def pureTr5 (i : Nat) : Bool := match i with
  | 9 => false | 12 => false | 15 => false | 16 => false | _ => true
def gTr5 (w : World) (B : Book) (bits : List Int) (ba : Option Addr) (bc : Nat) (ta : Option Addr) (tc tb tq g k : Nat) (v : Value) (i : Nat) (vs : List Value) (W : World) : Prop := match i with
  | 0 => vs = [.pointer (some ⟨g, 0, none⟩)]
  | 1 => vs = [v]
  | 2 => vs = [.pointer (some ⟨w.heap.size, 0, none⟩)]
  | 3 => vs = [.slice ta B.tides.length tc]
  | 4 => vs = [i64 k]
  | 5 => vs = [.pointer (some ⟨tb, tq + k * 2, none⟩)]
  | 6 => vs = [.agg #[i64 (tideAt B k).lo, i64 (tideAt B k).hi]]
  | 7 => vs = [.slice ba bits.length bc]
  | 8 => vs = [i64 k]
  | 9 => vs = [i64 (chooseI bits k)]
  | 10 => vs = [i64 k]
  | 11 => vs = [.slice ba bits.length bc]
  | 12 => vs = [i64 (chooseI bits 1)]
  | 13 => vs = [i64 (IntKind.i64.wrap (k * chooseI bits 1))]
  | 14 => vs = [i64 (IntKind.i64.wrap (chooseI bits k + IntKind.i64.wrap (k * chooseI bits 1)))]
  | 15 => vs = [i64 (withinI (tideAt B k).lo (tideAt B k).hi (IntKind.i64.wrap (chooseI bits k + IntKind.i64.wrap (k * chooseI bits 1))))]
  | 16 => ∃ g, vs = [.slice (some ⟨g, 0, none⟩) 1 1] ∧ W.heap[g]? = some (.cells #[i64 (withinI (tideAt B k).lo (tideAt B k).hi (IntKind.i64.wrap (chooseI bits k + IntKind.i64.wrap (k * chooseI bits 1))))] 3 (0, 0))
  | _ => True
set_option maxRecDepth 100000 in
set_option maxHeartbeats 4000000 in
theorem truly_any (B : Book) (tb tq : Nat) (ta : Option Addr) (tc : Nat) (sa : Option Addr) (sc : Nat) (bb bo : Nat) (ba : Option Addr) (bc : Nat) (bits : List Int) (w : World) (hT : SpansAt w.heap.size w tb tq ta B.tides) (hL : IntsAt w.heap.size w bb bo ba bits) (hV : Vld B) :
    Calls Tryd.prog 22 #[bookVal B ta tc sa sc, .slice ba bits.length bc] w (TrulyPost B bits w) := by
  have hb0 : Below w.heap.size w ((w.alloc (.cells (bookCells B ta tc sa sc) 30)).alloc (.cells #[.slice none 0 0, i64 0, i64 0, i64 0] 43)) := ((Below.refl _ w).alloc (Nat.le_refl _) _).alloc (by simp) _
  have hx0 : ((w.alloc (.cells (bookCells B ta tc sa sc) 30)).alloc (.cells #[.slice none 0 0, i64 0, i64 0, i64 0] 43)).heap[w.heap.size]? = some (.cells (bookCells B ta tc sa sc) 30 (0, 0)) := (Below.heap_alloc _ _ _ (by simp)).trans (heap_alloc_new w _)
  have hr0 : ((w.alloc (.cells (bookCells B ta tc sa sc) 30)).alloc (.cells #[.slice none 0 0, i64 0, i64 0, i64 0] 43)).heap[w.heap.size + 1]? = some (.cells #[.slice none 0 0, i64 0, i64 0, i64 0] 43 (0, 0)) := heap_alloc2_new w _ _
  have hx0l := (Array.getElem?_eq_some_iff.1 hx0).1
  have hr0l := (Array.getElem?_eq_some_iff.1 hr0).1
  have hL0 := hL.same (Same.of_below hb0)
  have hsz : ((w.alloc (.cells (bookCells B ta tc sa sc) 30)).alloc (.cells #[.slice none 0 0, i64 0, i64 0, i64 0] 43)).heap.size = w.heap.size + 2 := by simp
  have h24 := hV.h24
  have hw0 : -1000 ≤ B.s0.fl ∧ B.s0.fl ≤ B.s0.fh ∧ B.s0.fh ≤ 1000 := by have := hV.sh0.fl; have := hV.sh0.ff; have := hV.sh0.fh; omega
  have hw1 : -1000 ≤ B.s1.fl ∧ B.s1.fl ≤ B.s1.fh ∧ B.s1.fh ≤ 1000 := by have := hV.sh1.fl; have := hV.sh1.ff; have := hV.sh1.fh; omega
  have hw2 : -1000 ≤ B.el ∧ B.el ≤ B.eh ∧ B.eh ≤ 1000 := by have := hV.e0; have := hV.ee; have := hV.e40; omega
  go_enter Tryd.func22, Tryd.ntmps22
  go_wp2_with fail
  refine rl_region 22 rdTr1 pureTr1 (gTr1 w B bits ba bc) BR (by kernel_rfl) (by kernel_rfl) (by kernel_rfl) (by kernel_rfl) (by kernel_rfl) (by kernel_rfl) (fun n => BR.drawn _ n) BR.refl (fun _ _ _ => BR.trans) ?_ ?_ ?_
  · intro i _ hi vs wA wB hG hR
    match i, hi, hG with
    | 0, _, hG => exact hG
    | 1, _, hG => exact hG
    | 2, _, hG => exact hG
    | 3, _, hG => exact hG
    | 4, _, hG => exact hG
    | 5, _, hG => exact hG
    | 6, _, hG => exact hG
    | 7, _, hG => exact hG
    | 8, _, hG => exact hG
    | 9, _, hG => exact hG
    | 10, _, hG => exact hG
    | 11, _, hG => exact hG
    | 12, _, hG => exact hG
    | 13, _, hG => exact hG
    | 14, _, hG => exact hG
    | 15, _, hG => exact hG
    | 16, _, hG => exact hG
    | 17, _, hG => exact hG
    | 18, _, hG => exact hG
    | 19, _, hG => exact hG
    | 20, _, hG => exact hG
    | 21, _, hG => obtain ⟨g, h1, h0, h2⟩ := hG; exact ⟨g, h1, h0, (hR.block _ (Array.getElem?_eq_some_iff.1 h2).1).trans h2⟩
    | _ + 22, _, _ => trivial
  · intro i op hin ho act wA hR hF hD
    have sz : act.tmps.size = 55 := hF.size
    match i, hin, ho, hD with
    | 0, _, ho, hD =>
      cases ho
      have e2 := slot_tmps (show slotOf act 2 = .pointer (some ⟨w.heap.size, 0, none⟩) from hF.slot 2 (by kernel_rfl))
      refine rgw_val (wanted_none rfl) (.pointer (some ⟨w.heap.size, 1, none⟩)) (by simp [go_sem, e2]) (BR.refl _) ?_
      exact congrArg (fun v => [v]) (slotOf_same act 7 _ (by omega))
    | 1, _, ho, hD =>
      cases ho
      have e7 := slot_tmps (List.cons.inj (hD 0 (by decide))).1
      refine rgw_val (wanted_none rfl) (.pointer (some ⟨w.heap.size, 1, none⟩)) (by simp [go_sem, e7]) (BR.refl _) ?_
      exact congrArg (fun v => [v]) (slotOf_same act 8 _ (by omega))
    | 2, _, ho, hD =>
      cases ho
      have e8 := slot_tmps (List.cons.inj (hD 1 (by decide))).1
      refine rgw_val (wanted_none rfl) (.pointer (some ⟨w.heap.size, 1, none⟩)) (by simp [go_sem, e8]) (BR.refl _) ?_
      exact congrArg (fun v => [v]) (slotOf_same act 9 _ (by omega))
    | 3, _, ho, hD =>
      cases ho
      have e9 := slot_tmps (List.cons.inj (hD 2 (by decide))).1
      have hxA := (Below.block hR _ hx0l).trans hx0
      have hxc := cells_of hxA
      refine rgw_val (wanted_none rfl) (.agg #[i64 B.s0.fl, i64 B.s0.fh]) (by simp [go_sem, e9, hxc]) (BR.refl _) ?_
      exact congrArg (fun v => [v]) (slotOf_same act 10 _ (by omega))
    | 4, _, ho, hD =>
      cases ho
      have e1 := slot_tmps (show slotOf act 1 = .slice ba bits.length bc from hF.slot 1 (by kernel_rfl))
      refine rgw_val (wanted_none rfl) (.slice ba bits.length bc) (by simp [go_sem, e1]) (BR.refl _) ?_
      exact congrArg (fun v => [v]) (slotOf_same act 11 _ (by omega))
    | 5, _, ho, hD =>
      cases ho
      have e11 := slot_tmps (List.cons.inj (hD 4 (by decide))).1
      refine rgw_call (wanted_none rfl) 69 #[.slice ba bits.length bc, i64 0] (by simp [go_sem, e11]) rfl ?_
      refine (chooseI_any w.heap.size bb bo ba bc bits 0 _ (hL0.same (Same.of_below (Below.mono hR hb0.size)))).mono ?_
      rintro e wB ⟨rfl, rfl⟩
      exact ⟨_, rfl, BR.refl _, congrArg (fun v => [v]) (slotOf_same act 12 _ (by omega))⟩
    | 6, _, ho, hD =>
      cases ho
      have e10 := slot_tmps (List.cons.inj (hD 3 (by decide))).1
      have e12 := slot_tmps (List.cons.inj (hD 5 (by decide))).1
      refine rgw_call (wanted_none rfl) 39 #[.agg #[i64 B.s0.fl, i64 B.s0.fh], i64 (chooseI bits 0)] (by simp [go_sem, e10, e12]) rfl ?_
      refine (withinI_any _ _ _ _ hw0.1 hw0.2.1 hw0.2.2).mono ?_
      rintro e wB ⟨rfl, hb⟩
      exact ⟨_, rfl, hb, congrArg (fun v => [v]) (slotOf_same act 13 _ (by omega))⟩
    | 7, _, ho, hD =>
      cases ho
      have e2 := slot_tmps (show slotOf act 2 = .pointer (some ⟨w.heap.size, 0, none⟩) from hF.slot 2 (by kernel_rfl))
      refine rgw_val (wanted_none rfl) (.pointer (some ⟨w.heap.size, 1, none⟩)) (by simp [go_sem, e2]) (BR.refl _) ?_
      exact congrArg (fun v => [v]) (slotOf_same act 14 _ (by omega))
    | 8, _, ho, hD =>
      cases ho
      have e14 := slot_tmps (List.cons.inj (hD 7 (by decide))).1
      refine rgw_val (wanted_none rfl) (.pointer (some ⟨w.heap.size, 5, none⟩)) (by simp [go_sem, e14]) (BR.refl _) ?_
      exact congrArg (fun v => [v]) (slotOf_same act 15 _ (by omega))
    | 9, _, ho, hD =>
      cases ho
      have e15 := slot_tmps (List.cons.inj (hD 8 (by decide))).1
      refine rgw_val (wanted_none rfl) (.pointer (some ⟨w.heap.size, 5, none⟩)) (by simp [go_sem, e15]) (BR.refl _) ?_
      exact congrArg (fun v => [v]) (slotOf_same act 16 _ (by omega))
    | 10, _, ho, hD =>
      cases ho
      have e16 := slot_tmps (List.cons.inj (hD 9 (by decide))).1
      have hxA := (Below.block hR _ hx0l).trans hx0
      have hxc := cells_of hxA
      refine rgw_val (wanted_none rfl) (.agg #[i64 B.s1.fl, i64 B.s1.fh]) (by simp [go_sem, e16, hxc]) (BR.refl _) ?_
      exact congrArg (fun v => [v]) (slotOf_same act 17 _ (by omega))
    | 11, _, ho, hD =>
      cases ho
      have e1 := slot_tmps (show slotOf act 1 = .slice ba bits.length bc from hF.slot 1 (by kernel_rfl))
      refine rgw_val (wanted_none rfl) (.slice ba bits.length bc) (by simp [go_sem, e1]) (BR.refl _) ?_
      exact congrArg (fun v => [v]) (slotOf_same act 18 _ (by omega))
    | 12, _, ho, hD =>
      cases ho
      have e18 := slot_tmps (List.cons.inj (hD 11 (by decide))).1
      refine rgw_call (wanted_none rfl) 69 #[.slice ba bits.length bc, i64 1] (by simp [go_sem, e18]) rfl ?_
      refine (chooseI_any w.heap.size bb bo ba bc bits 1 _ (hL0.same (Same.of_below (Below.mono hR hb0.size)))).mono ?_
      rintro e wB ⟨rfl, rfl⟩
      exact ⟨_, rfl, BR.refl _, congrArg (fun v => [v]) (slotOf_same act 19 _ (by omega))⟩
    | 13, _, ho, hD =>
      cases ho
      have e17 := slot_tmps (List.cons.inj (hD 10 (by decide))).1
      have e19 := slot_tmps (List.cons.inj (hD 12 (by decide))).1
      refine rgw_call (wanted_none rfl) 39 #[.agg #[i64 B.s1.fl, i64 B.s1.fh], i64 (chooseI bits 1)] (by simp [go_sem, e17, e19]) rfl ?_
      refine (withinI_any _ _ _ _ hw1.1 hw1.2.1 hw1.2.2).mono ?_
      rintro e wB ⟨rfl, hb⟩
      exact ⟨_, rfl, hb, congrArg (fun v => [v]) (slotOf_same act 20 _ (by omega))⟩
    | 14, _, ho, hD =>
      cases ho
      have e13 := slot_tmps (List.cons.inj (hD 6 (by decide))).1
      have e20 := slot_tmps (List.cons.inj (hD 13 (by decide))).1
      refine rgw_val (wanted_none rfl) (.agg #[i64 (withinI B.s0.fl B.s0.fh (chooseI bits 0)), i64 (withinI B.s1.fl B.s1.fh (chooseI bits 1))]) (by simp [go_sem, e13, e20]) (BR.refl _) ?_
      exact congrArg (fun v => [v]) (slotOf_same act 21 _ (by omega))
    | 15, _, ho, hD =>
      cases ho
      have e2 := slot_tmps (show slotOf act 2 = .pointer (some ⟨w.heap.size, 0, none⟩) from hF.slot 2 (by kernel_rfl))
      refine rgw_val (wanted_none rfl) (.pointer (some ⟨w.heap.size, 9, none⟩)) (by simp [go_sem, e2]) (BR.refl _) ?_
      exact congrArg (fun v => [v]) (slotOf_same act 22 _ (by omega))
    | 16, _, ho, hD =>
      cases ho
      have e22 := slot_tmps (List.cons.inj (hD 15 (by decide))).1
      have hxA := (Below.block hR _ hx0l).trans hx0
      have hxc := cells_of hxA
      refine rgw_val (wanted_none rfl) (.agg #[i64 B.el, i64 B.eh]) (by simp [go_sem, e22, hxc]) (BR.refl _) ?_
      exact congrArg (fun v => [v]) (slotOf_same act 23 _ (by omega))
    | 17, _, ho, hD =>
      cases ho
      have e1 := slot_tmps (show slotOf act 1 = .slice ba bits.length bc from hF.slot 1 (by kernel_rfl))
      refine rgw_val (wanted_none rfl) (.slice ba bits.length bc) (by simp [go_sem, e1]) (BR.refl _) ?_
      exact congrArg (fun v => [v]) (slotOf_same act 24 _ (by omega))
    | 18, _, ho, hD =>
      cases ho
      have e24 := slot_tmps (List.cons.inj (hD 17 (by decide))).1
      refine rgw_call (wanted_none rfl) 69 #[.slice ba bits.length bc, i64 2] (by simp [go_sem, e24]) rfl ?_
      refine (chooseI_any w.heap.size bb bo ba bc bits 2 _ (hL0.same (Same.of_below (Below.mono hR hb0.size)))).mono ?_
      rintro e wB ⟨rfl, rfl⟩
      exact ⟨_, rfl, BR.refl _, congrArg (fun v => [v]) (slotOf_same act 25 _ (by omega))⟩
    | 19, _, ho, hD =>
      cases ho
      have e23 := slot_tmps (List.cons.inj (hD 16 (by decide))).1
      have e25 := slot_tmps (List.cons.inj (hD 18 (by decide))).1
      refine rgw_call (wanted_none rfl) 39 #[.agg #[i64 B.el, i64 B.eh], i64 (chooseI bits 2)] (by simp [go_sem, e23, e25]) rfl ?_
      refine (withinI_any _ _ _ _ hw2.1 hw2.2.1 hw2.2.2).mono ?_
      rintro e wB ⟨rfl, hb⟩
      exact ⟨_, rfl, hb, congrArg (fun v => [v]) (slotOf_same act 26 _ (by omega))⟩
    | 20, _, ho, hD =>
      cases ho
      have e21 := slot_tmps (List.cons.inj (hD 14 (by decide))).1
      have e26 := slot_tmps (List.cons.inj (hD 19 (by decide))).1
      refine rgw_val (wanted_none rfl) (.agg #[.slice none 0 0, i64 (withinI B.s0.fl B.s0.fh (chooseI bits 0)), i64 (withinI B.s1.fl B.s1.fh (chooseI bits 1)), i64 (withinI B.el B.eh (chooseI bits 2))]) (by simp [go_sem, e21, e26]) (BR.refl _) ?_
      exact congrArg (fun v => [v]) (slotOf_same act 27 _ (by omega))
    | 21, _, ho, hD =>
      cases ho
      refine rgw_wp (wanted_none rfl) rfl ?_
      refine wp_of_run (v := .pointer (some ⟨wA.heap.size, 0, none⟩)) (w' := wA.alloc (.cells #[.slice none 0 0, i64 0, i64 0, i64 0] 43)) (by simp [go_sem]) ?_
      exact ⟨_, rfl, (Below.refl _ _).alloc (Nat.le_refl _) _, _, congrArg (fun v => [v]) (slotOf_same act 5 _ (by omega)), Nat.le_trans (Nat.le_of_eq hsz.symm) (Below.size hR), heap_alloc_new _ _⟩
    | _ + 22, hin, _, _ => exact absurd hin (by omega)
  · intro act wA hR hF hA
    have f1 : slotOf act 1 = .slice ba bits.length bc := hF.slot 1 (by kernel_rfl)
    have f2 : slotOf act 2 = .pointer (some ⟨w.heap.size, 0, none⟩) := hF.slot 2 (by kernel_rfl)
    have f4 : slotOf act 4 = .pointer (some ⟨w.heap.size + 1, 0, none⟩) := hF.slot 4 (by kernel_rfl)
    obtain ⟨g, d5, hzg, hg⟩ := hA 21 (by decide)
    have f5 : slotOf act 5 = .pointer (some ⟨g, 0, none⟩) := (List.cons.inj d5).1
    have f7 : slotOf act 7 = .pointer (some ⟨w.heap.size, 1, none⟩) := (List.cons.inj (hA 0 (by decide))).1
    have f8 : slotOf act 8 = .pointer (some ⟨w.heap.size, 1, none⟩) := (List.cons.inj (hA 1 (by decide))).1
    have f9 : slotOf act 9 = .pointer (some ⟨w.heap.size, 1, none⟩) := (List.cons.inj (hA 2 (by decide))).1
    have f10 : slotOf act 10 = .agg #[i64 B.s0.fl, i64 B.s0.fh] := (List.cons.inj (hA 3 (by decide))).1
    have f11 : slotOf act 11 = .slice ba bits.length bc := (List.cons.inj (hA 4 (by decide))).1
    have f12 : slotOf act 12 = i64 (chooseI bits 0) := (List.cons.inj (hA 5 (by decide))).1
    have f13 : slotOf act 13 = i64 (withinI B.s0.fl B.s0.fh (chooseI bits 0)) := (List.cons.inj (hA 6 (by decide))).1
    have f14 : slotOf act 14 = .pointer (some ⟨w.heap.size, 1, none⟩) := (List.cons.inj (hA 7 (by decide))).1
    have f15 : slotOf act 15 = .pointer (some ⟨w.heap.size, 5, none⟩) := (List.cons.inj (hA 8 (by decide))).1
    have f16 : slotOf act 16 = .pointer (some ⟨w.heap.size, 5, none⟩) := (List.cons.inj (hA 9 (by decide))).1
    have f17 : slotOf act 17 = .agg #[i64 B.s1.fl, i64 B.s1.fh] := (List.cons.inj (hA 10 (by decide))).1
    have f18 : slotOf act 18 = .slice ba bits.length bc := (List.cons.inj (hA 11 (by decide))).1
    have f19 : slotOf act 19 = i64 (chooseI bits 1) := (List.cons.inj (hA 12 (by decide))).1
    have f20 : slotOf act 20 = i64 (withinI B.s1.fl B.s1.fh (chooseI bits 1)) := (List.cons.inj (hA 13 (by decide))).1
    have f21 : slotOf act 21 = .agg #[i64 (withinI B.s0.fl B.s0.fh (chooseI bits 0)), i64 (withinI B.s1.fl B.s1.fh (chooseI bits 1))] := (List.cons.inj (hA 14 (by decide))).1
    have f22 : slotOf act 22 = .pointer (some ⟨w.heap.size, 9, none⟩) := (List.cons.inj (hA 15 (by decide))).1
    have f23 : slotOf act 23 = .agg #[i64 B.el, i64 B.eh] := (List.cons.inj (hA 16 (by decide))).1
    have f24 : slotOf act 24 = .slice ba bits.length bc := (List.cons.inj (hA 17 (by decide))).1
    have f25 : slotOf act 25 = i64 (chooseI bits 2) := (List.cons.inj (hA 18 (by decide))).1
    have f26 : slotOf act 26 = i64 (withinI B.el B.eh (chooseI bits 2)) := (List.cons.inj (hA 19 (by decide))).1
    have f27 : slotOf act 27 = .agg #[.slice none 0 0, i64 (withinI B.s0.fl B.s0.fh (chooseI bits 0)), i64 (withinI B.s1.fl B.s1.fh (chooseI bits 1)), i64 (withinI B.el B.eh (chooseI bits 2))] := (List.cons.inj (hA 20 (by decide))).1
    rw [act_eta act 55 hF.size hF.defers]
    simp only [show List.range 55 = [0, 1, 2, 3, 4, 5, 6, 7, 8, 9, 10, 11, 12, 13, 14, 15, 16, 17, 18, 19, 20, 21, 22, 23, 24, 25, 26, 27, 28, 29, 30, 31, 32, 33, 34, 35, 36, 37, 38, 39, 40, 41, 42, 43, 44, 45, 46, 47, 48, 49, 50, 51, 52, 53, 54] from rfl, List.map_cons, List.map_nil, f1, f2, f4, f5, f7, f8, f9, f10, f11, f12, f13, f14, f15, f16, f17, f18, f19, f20, f21, f22, f23, f24, f25, f26, f27]
    clear hA hF f1 f2 f4 f5 f7 f8 f9 f10 f11 f12 f13 f14 f15 f16 f17 f18 f19 f20 f21 f22 f23 f24 f25 f26 f27
    simp only [List.drop_succ_cons, List.drop_zero]
    have hSt := SetAt.row wA g #[.slice none 0 0, i64 (withinI B.s0.fl B.s0.fh (chooseI bits 0)), i64 (withinI B.s1.fl B.s1.fh (chooseI bits 1)), i64 (withinI B.el B.eh (chooseI bits 2))]
    have hxA := (Below.block hR _ hx0l).trans hx0
    have hrA := (Below.block hR _ hr0l).trans hr0
    have hbA := hb0.trans (Below.mono hR hb0.size)
    have hbB := hSt.below (Nat.le_trans (Nat.le_add_right _ 2) hzg) hbA
    have hxB := (hSt.other w.heap.size (by omega)).trans hxA
    have hrB := (hSt.other (w.heap.size + 1) (by omega)).trans hrA
    have hgB : (wA.setRow g #[.slice none 0 0, i64 (withinI B.s0.fl B.s0.fh (chooseI bits 0)), i64 (withinI B.s1.fl B.s1.fh (chooseI bits 1)), i64 (withinI B.el B.eh (chooseI bits 2))]).heap[g]? = some (.cells #[.slice none 0 0, i64 (withinI B.s0.fl B.s0.fh (chooseI bits 0)), i64 (withinI B.s1.fl B.s1.fh (chooseI bits 1)), i64 (withinI B.el B.eh (chooseI bits 2))] 43 (0, 0)) := setRow_heap _ _ _ _ _ _ hg
    obtain ⟨wB, hwB⟩ : ∃ wB, wA.setRow g #[.slice none 0 0, i64 (withinI B.s0.fl B.s0.fh (chooseI bits 0)), i64 (withinI B.s1.fl B.s1.fh (chooseI bits 1)), i64 (withinI B.el B.eh (chooseI bits 2))] = wB := ⟨_, rfl⟩
    refine st43 rfl _ _ rfl g _ _ rfl rfl hg rfl rfl (by simp [Value.oneCell']) ?_
    rw [hwB] at hbB hxB hrB hgB ⊢
    have hgz := (Array.getElem?_eq_some_iff.1 hgB).1
    obtain ⟨z, hze⟩ : ∃ z, wB.heap.size = z := ⟨_, rfl⟩
    have hzB : z ≤ wB.heap.size := Nat.le_of_eq hze.symm
    rw [hze] at hgz
    clear hwB hSt hxA hrA hbA hg hR hx0 hr0 hx0l hr0l hsz hb0 hL0 hze hw0 hw1 hw2
    go_wp2_with fail
    refine wp_loop (fun act W => ∃ (k : Nat) (v : Value), k ≤ B.tides.length ∧ TruI w B bits ta tc sa sc ba bc g z k v act W) (fun act _ => B.tides.length - (intOf (slotOf act 6)).toNat) ?_ ?_
    · exact ⟨0, .slice none 0 0, Nat.zero_le _, rfl, rfl, rfl, rfl, rfl, rfl, rfl, hzB, hbB, hxB, hrB, hgB, World.ownsRow_nil _ _ _ _⟩
    · clear hzB hbB hxB hrB hgB
      rintro act W9 ⟨k, v, hk, hsz, hdf, s1, s2, s4, s5, s6, hz9, hb9, hx9, hr9, hg9, hown⟩
      rw [act_eta act 55 hsz hdf]
      simp only [show List.range 55 = [0, 1, 2, 3, 4, 5, 6, 7, 8, 9, 10, 11, 12, 13, 14, 15, 16, 17, 18, 19, 20, 21, 22, 23, 24, 25, 26, 27, 28, 29, 30, 31, 32, 33, 34, 35, 36, 37, 38, 39, 40, 41, 42, 43, 44, 45, 46, 47, 48, 49, 50, 51, 52, 53, 54] from rfl, List.map_cons, List.map_nil, s1, s2, s4, s5, s6]
      have hx9l := (Array.getElem?_eq_some_iff.1 hx9).1
      have hg9l := (Array.getElem?_eq_some_iff.1 hg9).1
      have hxc := cells_of hx9
      by_cases hlt : k < B.tides.length
      · have hlt' : (k : Int) < (B.tides.length : Int) := by omega
        have hT9 := hT.same (Same.of_below hb9)
        have hL9 := hL.same (Same.of_below hb9)
        have htk := tideAt_nat hlt
        have hwk : -1000 ≤ (tideAt B k).lo ∧ (tideAt B k).lo ≤ (tideAt B k).hi ∧ (tideAt B k).hi ≤ 1000 := by
          have ht := hV.tides _ (List.getElem_mem hlt)
          rw [← htk] at ht
          omega
        have hi22 : ∀ W, (Instr.indexAt 22 (.slice ta B.tides.length tc) (.int .i64 (k : Int))).run Tryd.prog W = .ok (.pointer (some ⟨tb, tq + k * 2, none⟩)) W := fun W => idx22 W (hT9.at_ (ne_nil_of_lt hlt)) hlt
        obtain ⟨i0, hi, hi1, hi2, hi3⟩ := info_parts info3'
        have hsucc := hsK_succ B bits k
        go_wp2_with fail
        refine rl_region 17 rdTr5 pureTr5 (gTr5 w B bits ba bc ta tc tb tq g k v) BR (by kernel_rfl) (by kernel_rfl) (by kernel_rfl) (by kernel_rfl) (by kernel_rfl) (by kernel_rfl) (fun n => BR.drawn _ n) BR.refl (fun _ _ _ => BR.trans) ?_ ?_ ?_
        · intro i _ hi vs wA wB hG hR
          match i, hi, hG with
          | 0, _, hG => exact hG
          | 1, _, hG => exact hG
          | 2, _, hG => exact hG
          | 3, _, hG => exact hG
          | 4, _, hG => exact hG
          | 5, _, hG => exact hG
          | 6, _, hG => exact hG
          | 7, _, hG => exact hG
          | 8, _, hG => exact hG
          | 9, _, hG => exact hG
          | 10, _, hG => exact hG
          | 11, _, hG => exact hG
          | 12, _, hG => exact hG
          | 13, _, hG => exact hG
          | 14, _, hG => exact hG
          | 15, _, hG => exact hG
          | 16, _, hG => obtain ⟨g, h1, h2⟩ := hG; exact ⟨g, h1, (hR.block _ (Array.getElem?_eq_some_iff.1 h2).1).trans h2⟩
          | _ + 17, _, _ => trivial
        · intro i op hin ho act wA hR hF hD
          have sz : act.tmps.size = 55 := hF.size
          match i, hin, ho, hD with
          | 0, _, ho, hD =>
            cases ho
            have e5 := slot_tmps (show slotOf act 5 = .pointer (some ⟨g, 0, none⟩) from hF.slot 5 (by kernel_rfl))
            refine rgw_val (wanted_none rfl) (.pointer (some ⟨g, 0, none⟩)) (by simp [go_sem, e5]) (BR.refl _) ?_
            exact congrArg (fun v => [v]) (slotOf_same act 35 _ (by omega))
          | 1, _, ho, hD =>
            cases ho
            have e35 := slot_tmps (List.cons.inj (hD 0 (by decide))).1
            have hgA := (Below.block hR _ hg9l).trans hg9
            have hgc := cells_of hgA
            refine rgw_val (wanted_none rfl) (v) (by simp [go_sem, e35, hgc]) (BR.refl _) ?_
            exact congrArg (fun v => [v]) (slotOf_same act 36 _ (by omega))
          | 2, _, ho, hD =>
            cases ho
            have e2 := slot_tmps (show slotOf act 2 = .pointer (some ⟨w.heap.size, 0, none⟩) from hF.slot 2 (by kernel_rfl))
            refine rgw_val (wanted_none rfl) (.pointer (some ⟨w.heap.size, 0, none⟩)) (by simp [go_sem, e2]) (BR.refl _) ?_
            exact congrArg (fun v => [v]) (slotOf_same act 37 _ (by omega))
          | 3, _, ho, hD =>
            cases ho
            have e37 := slot_tmps (List.cons.inj (hD 2 (by decide))).1
            have hxA := (Below.block hR _ hx9l).trans hx9
            have hxc := cells_of hxA
            refine rgw_val (wanted_none rfl) (.slice ta B.tides.length tc) (by simp [go_sem, e37, hxc]) (BR.refl _) ?_
            exact congrArg (fun v => [v]) (slotOf_same act 38 _ (by omega))
          | 4, _, ho, hD =>
            cases ho
            have e6 := slot_tmps (show slotOf act 6 = i64 k from hF.slot 6 (by kernel_rfl))
            refine rgw_val (wanted_none rfl) (i64 k) (by simp [go_sem, e6]) (BR.refl _) ?_
            exact congrArg (fun v => [v]) (slotOf_same act 39 _ (by omega))
          | 5, _, ho, hD =>
            cases ho
            have e38 := slot_tmps (List.cons.inj (hD 3 (by decide))).1
            have e39 := slot_tmps (List.cons.inj (hD 4 (by decide))).1
            refine rgw_val (wanted_none rfl) (.pointer (some ⟨tb, tq + k * 2, none⟩)) (by simp [go_sem, e38, e39, hi22]) (BR.refl _) ?_
            exact congrArg (fun v => [v]) (slotOf_same act 40 _ (by omega))
          | 6, _, ho, hD =>
            cases ho
            have e40 := slot_tmps (List.cons.inj (hD 5 (by decide))).1
            have hTA := hT9.same (Same.of_below (Below.mono hR hb9.size))
            have ct1 := hTA.lo k hlt
            have ct2 := hTA.hi k hlt
            refine rgw_val (wanted_none rfl) (.agg #[i64 (tideAt B k).lo, i64 (tideAt B k).hi]) (by simp [go_sem, e40, ct1, ct2, htk]) (BR.refl _) ?_
            exact congrArg (fun v => [v]) (slotOf_same act 41 _ (by omega))
          | 7, _, ho, hD =>
            cases ho
            have e1 := slot_tmps (show slotOf act 1 = .slice ba bits.length bc from hF.slot 1 (by kernel_rfl))
            refine rgw_val (wanted_none rfl) (.slice ba bits.length bc) (by simp [go_sem, e1]) (BR.refl _) ?_
            exact congrArg (fun v => [v]) (slotOf_same act 42 _ (by omega))
          | 8, _, ho, hD =>
            cases ho
            have e6 := slot_tmps (show slotOf act 6 = i64 k from hF.slot 6 (by kernel_rfl))
            refine rgw_val (wanted_none rfl) (i64 k) (by simp [go_sem, e6]) (BR.refl _) ?_
            exact congrArg (fun v => [v]) (slotOf_same act 43 _ (by omega))
          | 9, _, ho, hD =>
            cases ho
            have e42 := slot_tmps (List.cons.inj (hD 7 (by decide))).1
            have e43 := slot_tmps (List.cons.inj (hD 8 (by decide))).1
            refine rgw_call (wanted_none rfl) 69 #[.slice ba bits.length bc, i64 k] (by simp [go_sem, e42, e43]) rfl ?_
            refine (chooseI_any w.heap.size bb bo ba bc bits k _ (hL9.same (Same.of_below (Below.mono hR hb9.size)))).mono ?_
            rintro e wB ⟨rfl, rfl⟩
            exact ⟨_, rfl, BR.refl _, congrArg (fun v => [v]) (slotOf_same act 44 _ (by omega))⟩
          | 10, _, ho, hD =>
            cases ho
            have e6 := slot_tmps (show slotOf act 6 = i64 k from hF.slot 6 (by kernel_rfl))
            refine rgw_val (wanted_none rfl) (i64 k) (by simp [go_sem, e6]) (BR.refl _) ?_
            exact congrArg (fun v => [v]) (slotOf_same act 45 _ (by omega))
          | 11, _, ho, hD =>
            cases ho
            have e1 := slot_tmps (show slotOf act 1 = .slice ba bits.length bc from hF.slot 1 (by kernel_rfl))
            refine rgw_val (wanted_none rfl) (.slice ba bits.length bc) (by simp [go_sem, e1]) (BR.refl _) ?_
            exact congrArg (fun v => [v]) (slotOf_same act 46 _ (by omega))
          | 12, _, ho, hD =>
            cases ho
            have e46 := slot_tmps (List.cons.inj (hD 11 (by decide))).1
            refine rgw_call (wanted_none rfl) 69 #[.slice ba bits.length bc, i64 1] (by simp [go_sem, e46]) rfl ?_
            refine (chooseI_any w.heap.size bb bo ba bc bits 1 _ (hL9.same (Same.of_below (Below.mono hR hb9.size)))).mono ?_
            rintro e wB ⟨rfl, rfl⟩
            exact ⟨_, rfl, BR.refl _, congrArg (fun v => [v]) (slotOf_same act 47 _ (by omega))⟩
          | 13, _, ho, hD =>
            cases ho
            have e45 := slot_tmps (List.cons.inj (hD 10 (by decide))).1
            have e47 := slot_tmps (List.cons.inj (hD 12 (by decide))).1
            refine rgw_val (wanted_none rfl) (i64 (IntKind.i64.wrap (k * chooseI bits 1))) (by simp [go_sem, e45, e47]) (BR.refl _) ?_
            exact congrArg (fun v => [v]) (slotOf_same act 48 _ (by omega))
          | 14, _, ho, hD =>
            cases ho
            have e44 := slot_tmps (List.cons.inj (hD 9 (by decide))).1
            have e48 := slot_tmps (List.cons.inj (hD 13 (by decide))).1
            refine rgw_val (wanted_none rfl) (i64 (IntKind.i64.wrap (chooseI bits k + IntKind.i64.wrap (k * chooseI bits 1)))) (by simp [go_sem, e44, e48]) (BR.refl _) ?_
            exact congrArg (fun v => [v]) (slotOf_same act 49 _ (by omega))
          | 15, _, ho, hD =>
            cases ho
            have e41 := slot_tmps (List.cons.inj (hD 6 (by decide))).1
            have e49 := slot_tmps (List.cons.inj (hD 14 (by decide))).1
            refine rgw_call (wanted_none rfl) 39 #[.agg #[i64 (tideAt B k).lo, i64 (tideAt B k).hi], i64 (IntKind.i64.wrap (chooseI bits k + IntKind.i64.wrap (k * chooseI bits 1)))] (by simp [go_sem, e41, e49]) rfl ?_
            refine (withinI_any _ _ _ _ hwk.1 hwk.2.1 hwk.2.2).mono ?_
            rintro e wB ⟨rfl, hb⟩
            exact ⟨_, rfl, hb, congrArg (fun v => [v]) (slotOf_same act 50 _ (by omega))⟩
          | 16, _, ho, hD =>
            cases ho
            have e50 := slot_tmps (List.cons.inj (hD 15 (by decide))).1
            refine rgw_wp (wanted_none rfl) rfl ?_
            refine wp_of_run (v := .slice (some ⟨wA.heap.size, 0, none⟩) 1 1) (w' := wA.alloc (.cells #[i64 (withinI (tideAt B k).lo (tideAt B k).hi (IntKind.i64.wrap (chooseI bits k + IntKind.i64.wrap (k * chooseI bits 1))))] 3)) (by simp [go_sem, e50]) ?_
            exact ⟨_, rfl, (Below.refl _ _).alloc (Nat.le_refl _) _, _, congrArg (fun v => [v]) (slotOf_same act 51 _ (by omega)), heap_alloc_new _ _⟩
          | _ + 17, hin, _, _ => exact absurd hin (by omega)
        · intro act wA hR hF hA
          have f1 : slotOf act 1 = .slice ba bits.length bc := hF.slot 1 (by kernel_rfl)
          have f2 : slotOf act 2 = .pointer (some ⟨w.heap.size, 0, none⟩) := hF.slot 2 (by kernel_rfl)
          have f4 : slotOf act 4 = .pointer (some ⟨w.heap.size + 1, 0, none⟩) := hF.slot 4 (by kernel_rfl)
          have f5 : slotOf act 5 = .pointer (some ⟨g, 0, none⟩) := hF.slot 5 (by kernel_rfl)
          have f6 : slotOf act 6 = i64 k := hF.slot 6 (by kernel_rfl)
          have f35 : slotOf act 35 = .pointer (some ⟨g, 0, none⟩) := (List.cons.inj (hA 0 (by decide))).1
          have f36 : slotOf act 36 = v := (List.cons.inj (hA 1 (by decide))).1
          have f37 : slotOf act 37 = .pointer (some ⟨w.heap.size, 0, none⟩) := (List.cons.inj (hA 2 (by decide))).1
          have f38 : slotOf act 38 = .slice ta B.tides.length tc := (List.cons.inj (hA 3 (by decide))).1
          have f39 : slotOf act 39 = i64 k := (List.cons.inj (hA 4 (by decide))).1
          have f40 : slotOf act 40 = .pointer (some ⟨tb, tq + k * 2, none⟩) := (List.cons.inj (hA 5 (by decide))).1
          have f41 : slotOf act 41 = .agg #[i64 (tideAt B k).lo, i64 (tideAt B k).hi] := (List.cons.inj (hA 6 (by decide))).1
          have f42 : slotOf act 42 = .slice ba bits.length bc := (List.cons.inj (hA 7 (by decide))).1
          have f43 : slotOf act 43 = i64 k := (List.cons.inj (hA 8 (by decide))).1
          have f44 : slotOf act 44 = i64 (chooseI bits k) := (List.cons.inj (hA 9 (by decide))).1
          have f45 : slotOf act 45 = i64 k := (List.cons.inj (hA 10 (by decide))).1
          have f46 : slotOf act 46 = .slice ba bits.length bc := (List.cons.inj (hA 11 (by decide))).1
          have f47 : slotOf act 47 = i64 (chooseI bits 1) := (List.cons.inj (hA 12 (by decide))).1
          have f48 : slotOf act 48 = i64 (IntKind.i64.wrap (k * chooseI bits 1)) := (List.cons.inj (hA 13 (by decide))).1
          have f49 : slotOf act 49 = i64 (IntKind.i64.wrap (chooseI bits k + IntKind.i64.wrap (k * chooseI bits 1))) := (List.cons.inj (hA 14 (by decide))).1
          have f50 : slotOf act 50 = i64 (withinI (tideAt B k).lo (tideAt B k).hi (IntKind.i64.wrap (chooseI bits k + IntKind.i64.wrap (k * chooseI bits 1)))) := (List.cons.inj (hA 15 (by decide))).1
          obtain ⟨gs, d51, hgs⟩ := hA 16 (by decide)
          have f51 : slotOf act 51 = .slice (some ⟨gs, 0, none⟩) 1 1 := (List.cons.inj d51).1
          rw [act_eta act 55 hF.size hF.defers]
          simp only [show List.range 55 = [0, 1, 2, 3, 4, 5, 6, 7, 8, 9, 10, 11, 12, 13, 14, 15, 16, 17, 18, 19, 20, 21, 22, 23, 24, 25, 26, 27, 28, 29, 30, 31, 32, 33, 34, 35, 36, 37, 38, 39, 40, 41, 42, 43, 44, 45, 46, 47, 48, 49, 50, 51, 52, 53, 54] from rfl, List.map_cons, List.map_nil, f1, f2, f4, f5, f6, f35, f36, f37, f38, f39, f40, f41, f42, f43, f44, f45, f46, f47, f48, f49, f50, f51]
          clear hA hF f1 f2 f4 f5 f6 f35 f36 f37 f38 f39 f40 f41 f42 f43 f44 f45 f46 f47 f48 f49 f50 f51
          simp only [List.drop_succ_cons, List.drop_zero]
          have hxA := (Below.block hR _ hx9l).trans hx9
          have hrA := (Below.block hR _ (Array.getElem?_eq_some_iff.1 hr9).1).trans hr9
          have hgA := (Below.block hR _ hg9l).trans hg9
          have hbA := hb9.trans (Below.mono hR hb9.size)
          have hzA := Nat.le_trans hz9 (Below.size hR)
          have hownA := ownsRow_below hown hR
          have hgsc := cells_of hgs
          have hnews : ∀ j u, [i64 (withinI (tideAt B k).lo (tideAt B k).hi (IntKind.i64.wrap (chooseI bits k + IntKind.i64.wrap (k * chooseI bits 1))))][j]? = some u → wA.cell? ((⟨gs, 0, none⟩ : Addr).add j) = some u := fun j u hu => by
            rw [addr_add, hgsc]
            simpa using hu
          refine wpList_append_own _ rfl _ _ 40 rfl z 3 i0 (i64 0) 1 8 Tryd.underlying40 hi hi1 hi2 hi3 rfl (by decide) v k _ rfl hownA ⟨gs, 0, none⟩ 1 1 [i64 (withinI (tideAt B k).lo (tideAt B k).hi (IntKind.i64.wrap (chooseI bits k + IntKind.i64.wrap (k * chooseI bits 1))))] rfl rfl hnews (by simp [Value.oneCell']) (by unfold maxLen; omega) (by omega) hzA ?_
          intro v' w2 hown' hgrow _
          have hnb : ∀ j, j < z → some j ≠ v.ownBlock := fun j hj e => by have := (hownA.lt _ e.symm).1; omega
          have hx2 := (hgrow.block w.heap.size (by omega) (hnb _ (by omega))).trans hxA
          have hr2 := (hgrow.block (w.heap.size + 1) (by omega) (hnb _ (by omega))).trans hrA
          have hg2 := (hgrow.block g (by omega) (hnb _ (by omega))).trans hgA
          have hb2 : Below w.heap.size w w2 := hbA.grown hgrow (by omega) (fun j e => by have := (hownA.lt _ e).1; omega)
          have hz2 : z ≤ w2.heap.size := Nat.le_trans hzA hgrow.size
          have hgc := cells_of hg2
          have hgf := frozen_of hg2
          have hgl2 := (Array.getElem?_eq_some_iff.1 hg2).1
          obtain ⟨va, vc, rfl⟩ := slice_of_row hown'
          have hown3 := ownsRow_keep (y := g) (w' := w2.setCell ⟨g, 0, none⟩ (.slice va (k + 1) vc)) hown' (by omega) (fun j _ hjy => Below.heap_setCell _ _ _ j hjy)
          clear hxA hrA hgA hbA hzA hownA hgsc hnews hown' hgrow hnb hgs
          go_wp2_with fail
          refine ⟨⟨k + 1, .slice va (k + 1) vc, by omega, rfl, rfl, rfl, rfl, rfl, rfl, congrArg (Value.int .i64) (Int.natCast_succ k).symm, ?_, ?_, ?_, ?_, ?_, ?_⟩, ?_⟩
          · simpa [World.setCell] using hz2
          · exact hb2.setCell (p := ⟨g, 0, none⟩) (by show w.heap.size ≤ g; omega) _
          · exact (Below.heap_setCell _ _ _ _ (by show w.heap.size ≠ g; omega)).trans hx2
          · exact (Below.heap_setCell _ _ _ _ (by show w.heap.size + 1 ≠ g; omega)).trans hr2
          · exact set_cells (k := 0) hg2 _
          · rw [hsucc, List.map_append]; exact hown3
          · show B.tides.length - ((k : Int) + 1).toNat < B.tides.length - (k : Int).toNat
            omega
      · have hlt' : ¬ (k : Int) < (B.tides.length : Int) := by omega
        obtain rfl : k = B.tides.length := by omega
        obtain ⟨va, vc, rfl⟩ : ∃ a c, v = .slice a B.tides.length c := slice_of_row hown
        have hset := SetAt.row W9 (w.heap.size + 1) #[.slice va B.tides.length vc, i64 (withinI B.s0.fl B.s0.fh (chooseI bits 0)), i64 (withinI B.s1.fl B.s1.fh (chooseI bits 1)), i64 (withinI B.el B.eh (chooseI bits 2))]
        have hbF := hset.below (Nat.le_add_right _ 1) hb9
        have hown3 := ownsRow_keep (y := w.heap.size + 1) (w' := W9.setRow (w.heap.size + 1) #[.slice va B.tides.length vc, i64 (withinI B.s0.fl B.s0.fh (chooseI bits 0)), i64 (withinI B.s1.fl B.s1.fh (chooseI bits 1)), i64 (withinI B.el B.eh (chooseI bits 2))]) hown (by omega) (fun j _ hjy => hset.other j hjy)
        have hLF : ListV (W9.setRow (w.heap.size + 1) #[.slice va B.tides.length vc, i64 (withinI B.s0.fl B.s0.fh (chooseI bits 0)), i64 (withinI B.s1.fl B.s1.fh (chooseI bits 1)), i64 (withinI B.el B.eh (chooseI bits 2))]) (.slice va B.tides.length vc) (hsK B bits B.tides.length) := ListV.of_row (base := z) (by rw [hsK_len]; exact hown3) (by rw [hsK_len]; omega)
        have hfin := setRow_heap W9 (w.heap.size + 1) #[.slice none 0 0, i64 0, i64 0, i64 0] #[.slice va B.tides.length vc, i64 (withinI B.s0.fl B.s0.fh (chooseI bits 0)), i64 (withinI B.s1.fl B.s1.fh (chooseI bits 1)), i64 (withinI B.el B.eh (chooseI bits 2))] 43 (0, 0) hr9
        clear hown hown3 hset
        go_wp2_with (first | (refine ld43 rfl _ rfl g _ rfl hg9 rfl ?_) | (refine st43 rfl _ _ rfl (w.heap.size + 1) _ _ rfl rfl hr9 rfl rfl (by simp [Value.oneCell']) ?_))
        exact bodyPost_ret (results_cell_row rfl _ _ (w.heap.size + 1) 43 _ (0, 0) _ rfl hfin Tryd.underlying43 rfl (by rw [size43]; rfl)) rfl ⟨_, rfl, hbF, hLF⟩
theorem truly_v {B : Book} {v lv : Value} {bits : List Int} {w : World} (hB : BookV w v B) (hL : ListV w lv bits) (hV : Vld B) : Calls Tryd.prog 22 #[v, lv] w (TrulyPost B bits w) := by
  obtain ⟨tb, tq, ta, tc, sb, sq, sa, sc, rfl, hT, hS⟩ := hB
  obtain ⟨bb, bo, ba, bc, rfl, _, hI⟩ := hL
  exact truly_any B tb tq ta tc sa sc bb bo ba bc bits w hT hI hV
end Go.Proofs.YtkbmpkdflgimmaaDoor
