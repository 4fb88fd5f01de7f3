/- Contracts of afloat. (Printed by gentrue.py.) -/
import Derived.Test.YtkbmpkdflgimmaaDoorTrue1
namespace Go.Proofs.YtkbmpkdflgimmaaDoor
open Go.RowKit Go.Shelf

theorem size26 : (Tryd.prog.info? 26).map (·.size) = some 4 := by kernel_rfl
theorem st26 {ops : Array Oper} {rest : List Oper} {o : Oper} {a : Act} {w : World} {Q : Exit → Act → World → Prop} (hgd : o.guard = none) (x y : Operand) (ho : o.op = .store 26 x y) (g : Nat) (cs old : Array Value) (hx : a.eval x = .pointer (some ⟨g, 0, none⟩)) (hy : a.eval y = .agg cs) (hg : w.heap[g]? = some (.cells old 26 (0, 0))) (hs : cs.size = 4) (ho' : old.size = 4) (h1 : cs.all (·.oneCell') = true)
    (h : wpList Tryd.prog ops Q rest (a.put o.dst undef) (w.setRow g cs)) : wpList Tryd.prog ops Q (o :: rest) a w :=
  wpList_store_row hgd 26 x y ho g cs hx hy 26 old hg (by rw [size26, hs]) (by rw [hs, ho']) h1 h

def rdAf1s0 (i : Nat) : List Nat := match i with
  | 0 => [13] | 1 => [14] | 2 => [15] | 3 => [16] | 4 => [17] | 5 => [18] | 6 => [19] | 7 => [20] | 8 => [21] | 9 => [12] | 10 => [11] | _ => []
def pureAf1s0 (i : Nat) : Bool := match i with
  | 9 => false | _ => true
def gAf1s0 (w : World) (B : Book) (hs : List Int) (hb hq : Nat) (ha : Option Addr) (hc hr : Nat) (hh : Int) (i : Nat) (vs : List Value) (W : World) : Prop := match i with
  | 0 => vs = [.pointer (some ⟨w.heap.size + 1, 0, none⟩)]
  | 1 => vs = [.slice ha hs.length hc]
  | 2 => vs = [i64 hr]
  | 3 => vs = [.pointer (some ⟨hb, hq + hr, none⟩)]
  | 4 => vs = [i64 hh]
  | 5 => vs = [i64 0]
  | 6 => vs = [.pointer (some ⟨w.heap.size, 1, none⟩)]
  | 7 => vs = [.pointer (some ⟨w.heap.size, 1, none⟩)]
  | 8 => vs = [.agg #[i64 B.s0.fl, i64 B.s0.fh, i64 B.s0.lo, i64 B.s0.hi]]
  | 9 => ∃ g, vs = [.pointer (some ⟨g, 0, none⟩)] ∧ (w.heap.size + 2) ≤ g ∧ W.heap[g]? = some (.cells #[i64 0, i64 0, i64 0, i64 0] 26 (0, 0))
  | 10 => vs = [i64 hh]
  | _ => True
def rdAf2s0f (i : Nat) : List Nat := match i with
  | 0 => [22] | 1 => [23] | 2 => [24] | 3 => [25] | 4 => [26] | 5 => [27] | 6 => [28] | 7 => [29] | 8 => [30] | 9 => [31] | 10 => [32] | 11 => [33] | 12 => [34] | 13 => [35] | 14 => [36] | 15 => [37] | 16 => [38] | 17 => [39] | 18 => [40] | 19 => [41] | 20 => [42] | 21 => [43] | 22 => [44] | 23 => [45] | 24 => [10] | _ => []
def pureAf2s0f (i : Nat) : Bool := match i with
  | 10 => false | 22 => false | _ => true
def gAf2s0f (w : World) (B : Book) (ta : Option Addr) (tc : Nat) (sa : Option Addr) (sc : Nat) (hh fl0 e ld Q : Int) (i : Nat) (vs : List Value) (_ : World) : Prop := match i with
  | 0 => vs = [i64 hh]
  | 1 => vs = [i64 0]
  | 2 => vs = [.pointer (some ⟨w.heap.size + 1, 1, none⟩)]
  | 3 => vs = [.pointer (some ⟨w.heap.size + 1, 1, none⟩)]
  | 4 => vs = [i64 fl0]
  | 5 => vs = [.pointer (some ⟨w.heap.size + 1, 3, none⟩)]
  | 6 => vs = [i64 e]
  | 7 => vs = [i64 (fl0 + e)]
  | 8 => vs = [.agg (bookCells B ta tc sa sc)]
  | 9 => vs = [i64 ld]
  | 10 => vs = [i64 Q]
  | 11 => vs = [i64 (fl0 + e + Q)]
  | 12 => vs = [.pointer (some ⟨w.heap.size, 12, none⟩)]
  | 13 => vs = [i64 B.under]
  | 14 => vs = [i64 (fl0 + e + Q + B.under)]
  | 15 => vs = [.bool false]
  | 16 => vs = [.bool false]
  | 17 => True
  | 18 => True
  | 19 => True
  | 20 => True
  | 21 => True
  | 22 => True
  | 23 => vs = [.bool false]
  | 24 => vs = [.bool false]
  | _ => True
def rdAf2s0t (i : Nat) : List Nat := match i with
  | 0 => [22] | 1 => [23] | 2 => [24] | 3 => [25] | 4 => [26] | 5 => [27] | 6 => [28] | 7 => [29] | 8 => [30] | 9 => [31] | 10 => [32] | 11 => [33] | 12 => [34] | 13 => [35] | 14 => [36] | 15 => [37] | 16 => [38] | 17 => [39] | 18 => [40] | 19 => [41] | 20 => [42] | 21 => [43] | 22 => [44] | 23 => [45] | 24 => [10] | _ => []
def pureAf2s0t (i : Nat) : Bool := match i with
  | 10 => false | 22 => false | _ => true
def gAf2s0t (w : World) (B : Book) (ta : Option Addr) (tc : Nat) (sa : Option Addr) (sc g : Nat) (hh fl0 e ld Q : Int) (i : Nat) (vs : List Value) (_ : World) : Prop := match i with
  | 0 => vs = [i64 hh]
  | 1 => vs = [i64 0]
  | 2 => vs = [.pointer (some ⟨w.heap.size + 1, 1, none⟩)]
  | 3 => vs = [.pointer (some ⟨w.heap.size + 1, 1, none⟩)]
  | 4 => vs = [i64 fl0]
  | 5 => vs = [.pointer (some ⟨w.heap.size + 1, 3, none⟩)]
  | 6 => vs = [i64 e]
  | 7 => vs = [i64 (fl0 + e)]
  | 8 => vs = [.agg (bookCells B ta tc sa sc)]
  | 9 => vs = [i64 ld]
  | 10 => vs = [i64 Q]
  | 11 => vs = [i64 (fl0 + e + Q)]
  | 12 => vs = [.pointer (some ⟨w.heap.size, 12, none⟩)]
  | 13 => vs = [i64 B.under]
  | 14 => vs = [i64 (fl0 + e + Q + B.under)]
  | 15 => vs = [.bool true]
  | 16 => vs = [.bool true]
  | 17 => vs = [i64 hh]
  | 18 => vs = [.pointer (some ⟨g, 2, none⟩)]
  | 19 => vs = [i64 B.s0.lo]
  | 20 => vs = [.pointer (some ⟨g, 3, none⟩)]
  | 21 => vs = [i64 B.s0.hi]
  | 22 => vs = [.bool (inB hh B.s0.lo B.s0.hi)]
  | 23 => vs = [.bool (inB hh B.s0.lo B.s0.hi)]
  | 24 => vs = [.bool (inB hh B.s0.lo B.s0.hi)]
  | _ => True
def rdAf1s1 (i : Nat) : List Nat := match i with
  | 0 => [13] | 1 => [14] | 2 => [15] | 3 => [16] | 4 => [17] | 5 => [18] | 6 => [19] | 7 => [20] | 8 => [21] | 9 => [12] | 10 => [11] | _ => []
def pureAf1s1 (i : Nat) : Bool := match i with
  | 9 => false | _ => true
def gAf1s1 (w : World) (B : Book) (hs : List Int) (hb hq : Nat) (ha : Option Addr) (hc hr : Nat) (hh : Int) (i : Nat) (vs : List Value) (W : World) : Prop := match i with
  | 0 => vs = [.pointer (some ⟨w.heap.size + 1, 0, none⟩)]
  | 1 => vs = [.slice ha hs.length hc]
  | 2 => vs = [i64 hr]
  | 3 => vs = [.pointer (some ⟨hb, hq + hr, none⟩)]
  | 4 => vs = [i64 hh]
  | 5 => vs = [i64 1]
  | 6 => vs = [.pointer (some ⟨w.heap.size, 1, none⟩)]
  | 7 => vs = [.pointer (some ⟨w.heap.size, 5, none⟩)]
  | 8 => vs = [.agg #[i64 B.s1.fl, i64 B.s1.fh, i64 B.s1.lo, i64 B.s1.hi]]
  | 9 => ∃ g, vs = [.pointer (some ⟨g, 0, none⟩)] ∧ (w.heap.size + 2) ≤ g ∧ W.heap[g]? = some (.cells #[i64 0, i64 0, i64 0, i64 0] 26 (0, 0))
  | 10 => vs = [i64 hh]
  | _ => True
def rdAf2s1f (i : Nat) : List Nat := match i with
  | 0 => [22] | 1 => [23] | 2 => [24] | 3 => [25] | 4 => [26] | 5 => [27] | 6 => [28] | 7 => [29] | 8 => [30] | 9 => [31] | 10 => [32] | 11 => [33] | 12 => [34] | 13 => [35] | 14 => [36] | 15 => [37] | 16 => [38] | 17 => [39] | 18 => [40] | 19 => [41] | 20 => [42] | 21 => [43] | 22 => [44] | 23 => [45] | 24 => [10] | _ => []
def pureAf2s1f (i : Nat) : Bool := match i with
  | 10 => false | 22 => false | _ => true
def gAf2s1f (w : World) (B : Book) (ta : Option Addr) (tc : Nat) (sa : Option Addr) (sc : Nat) (hh fl1 e ld Q : Int) (i : Nat) (vs : List Value) (_ : World) : Prop := match i with
  | 0 => vs = [i64 hh]
  | 1 => vs = [i64 1]
  | 2 => vs = [.pointer (some ⟨w.heap.size + 1, 1, none⟩)]
  | 3 => vs = [.pointer (some ⟨w.heap.size + 1, 2, none⟩)]
  | 4 => vs = [i64 fl1]
  | 5 => vs = [.pointer (some ⟨w.heap.size + 1, 3, none⟩)]
  | 6 => vs = [i64 e]
  | 7 => vs = [i64 (fl1 + e)]
  | 8 => vs = [.agg (bookCells B ta tc sa sc)]
  | 9 => vs = [i64 ld]
  | 10 => vs = [i64 Q]
  | 11 => vs = [i64 (fl1 + e + Q)]
  | 12 => vs = [.pointer (some ⟨w.heap.size, 12, none⟩)]
  | 13 => vs = [i64 B.under]
  | 14 => vs = [i64 (fl1 + e + Q + B.under)]
  | 15 => vs = [.bool false]
  | 16 => vs = [.bool false]
  | 17 => True
  | 18 => True
  | 19 => True
  | 20 => True
  | 21 => True
  | 22 => True
  | 23 => vs = [.bool false]
  | 24 => vs = [.bool false]
  | _ => True
def rdAf2s1t (i : Nat) : List Nat := match i with
  | 0 => [22] | 1 => [23] | 2 => [24] | 3 => [25] | 4 => [26] | 5 => [27] | 6 => [28] | 7 => [29] | 8 => [30] | 9 => [31] | 10 => [32] | 11 => [33] | 12 => [34] | 13 => [35] | 14 => [36] | 15 => [37] | 16 => [38] | 17 => [39] | 18 => [40] | 19 => [41] | 20 => [42] | 21 => [43] | 22 => [44] | 23 => [45] | 24 => [10] | _ => []
def pureAf2s1t (i : Nat) : Bool := match i with
  | 10 => false | 22 => false | _ => true
def gAf2s1t (w : World) (B : Book) (ta : Option Addr) (tc : Nat) (sa : Option Addr) (sc g : Nat) (hh fl1 e ld Q : Int) (i : Nat) (vs : List Value) (_ : World) : Prop := match i with
  | 0 => vs = [i64 hh]
  | 1 => vs = [i64 1]
  | 2 => vs = [.pointer (some ⟨w.heap.size + 1, 1, none⟩)]
  | 3 => vs = [.pointer (some ⟨w.heap.size + 1, 2, none⟩)]
  | 4 => vs = [i64 fl1]
  | 5 => vs = [.pointer (some ⟨w.heap.size + 1, 3, none⟩)]
  | 6 => vs = [i64 e]
  | 7 => vs = [i64 (fl1 + e)]
  | 8 => vs = [.agg (bookCells B ta tc sa sc)]
  | 9 => vs = [i64 ld]
  | 10 => vs = [i64 Q]
  | 11 => vs = [i64 (fl1 + e + Q)]
  | 12 => vs = [.pointer (some ⟨w.heap.size, 12, none⟩)]
  | 13 => vs = [i64 B.under]
  | 14 => vs = [i64 (fl1 + e + Q + B.under)]
  | 15 => vs = [.bool true]
  | 16 => vs = [.bool true]
  | 17 => vs = [i64 hh]
  | 18 => vs = [.pointer (some ⟨g, 2, none⟩)]
  | 19 => vs = [i64 B.s1.lo]
  | 20 => vs = [.pointer (some ⟨g, 3, none⟩)]
  | 21 => vs = [i64 B.s1.hi]
  | 22 => vs = [.bool (inB hh B.s1.lo B.s1.hi)]
  | 23 => vs = [.bool (inB hh B.s1.lo B.s1.hi)]
  | 24 => vs = [.bool (inB hh B.s1.lo B.s1.hi)]
  | _ => True
set_option maxRecDepth 100000 in
set_option maxHeartbeats 4000000 in
theorem afloat0_any (B : Book) (ta : Option Addr) (tc : Nat) (sa : Option Addr) (sc : Nat) (hb hq : Nat) (ha : Option Addr) (hc : Nat) (hs : List Int) (fl0 fl1 e : Int) (hr : Nat) (ld : Int) (w : World) (hH : IntsAt w.heap.size w hb hq ha hs) (hlt : hr < hs.length) (hh : Int) (hhe : Hid (hs[hr] = hh))
    (hV : Sane B) (r2 : -1000 ≤ fl0 ∧ fl0 ≤ 1000) (r4 : 0 ≤ e ∧ e ≤ 100) (l0 : 0 ≤ ld) (l1 : ld ≤ 1000) :
    Calls Tryd.prog 32 #[bookVal B ta tc sa sc, .agg #[.slice ha hs.length hc, i64 fl0, i64 fl1, i64 e], i64 0, i64 hr, i64 ld] w (SomePost (landsB B 0 ld hh fl0 e) w) := by
  have hb0 : Below w.heap.size w ((w.alloc (.cells (bookCells B ta tc sa sc) 30)).alloc (.cells #[.slice ha hs.length hc, i64 fl0, i64 fl1, i64 e] 43)) := ((Below.refl _ w).alloc (Nat.le_refl _) _).alloc (by simp) _
  have hx0 : ((w.alloc (.cells (bookCells B ta tc sa sc) 30)).alloc (.cells #[.slice ha hs.length hc, i64 fl0, i64 fl1, i64 e] 43)).heap[w.heap.size]? = some (.cells (bookCells B ta tc sa sc) 30 (0, 0)) := (Below.heap_alloc _ _ _ (by simp)).trans (heap_alloc_new w _)
  have hk0 : ((w.alloc (.cells (bookCells B ta tc sa sc) 30)).alloc (.cells #[.slice ha hs.length hc, i64 fl0, i64 fl1, i64 e] 43)).heap[w.heap.size + 1]? = some (.cells #[.slice ha hs.length hc, i64 fl0, i64 fl1, i64 e] 43 (0, 0)) := heap_alloc2_new w _ _
  have hx0l := (Array.getElem?_eq_some_iff.1 hx0).1
  have hk0l := (Array.getElem?_eq_some_iff.1 hk0).1
  have hH0 := hH.same (Same.of_below hb0)
  have hi40 := fun W => idx40 (n := hs.length) (c := hc) (k := hr) W (hH.at_ (ne_nil_of_lt hlt)) hlt
  have hsz : ((w.alloc (.cells (bookCells B ta tc sa sc) 30)).alloc (.cells #[.slice ha hs.length hc, i64 fl0, i64 fl1, i64 e] 43)).heap.size = w.heap.size + 2 := by simp
  obtain ⟨b1, b2, b3, b4, b5, b6, b7⟩ := hV
  have hinch := inch_range (B := B) b4 b5 l0 l1
  obtain ⟨Q, hQ⟩ : ∃ Q, Hid (inchI B ld = Q) := ⟨_, rfl⟩
  rw [hQ.out] at hinch
  have hw1 : IntKind.i64.wrap (fl0 + e) = fl0 + e := wrap_fit (by omega) (by omega)
  have hw2 : IntKind.i64.wrap (fl0 + e + Q) = fl0 + e + Q := wrap_fit (by omega) (by omega)
  have hw3 : IntKind.i64.wrap (fl0 + e + Q + B.under) = fl0 + e + Q + B.under := wrap_fit (by omega) (by omega)
  have hf : decide (hh ≥ fl0 + e + Q + B.under) = false → Hid (landsB B 0 ld hh fl0 e = false) := fun h => by
    show _ = _
    have h2 := of_decide_eq_false h
    have h3 : decide (hh - fl0 ≥ e + (ld + B.sink - 1) / B.sink + B.under) = false := by
      have : (ld + B.sink - 1) / B.sink = Q := hQ.out
      rw [this]
      simp only [decide_eq_false_iff_not]
      omega
    unfold landsB
    rw [h3]
    rfl
  have ht : decide (hh ≥ fl0 + e + Q + B.under) = true → Hid (landsB B 0 ld hh fl0 e = inB hh B.s0.lo B.s0.hi) := fun h => by
    show _ = _
    have h2 := of_decide_eq_true h
    have h3 : decide (hh - fl0 ≥ e + (ld + B.sink - 1) / B.sink + B.under) = true := by
      have : (ld + B.sink - 1) / B.sink = Q := hQ.out
      rw [this]
      simp only [decide_eq_true_eq]
      omega
    unfold landsB
    rw [h3]
    rfl
  go_enter Tryd.func32, Tryd.ntmps32
  go_wp2_with fail
  refine rl_region 11 rdAf1s0 pureAf1s0 (gAf1s0 w B hs hb hq ha hc hr hh) BR (by kernel_rfl) (by kernel_rfl) (by kernel_rfl) (by kernel_rfl) (by kernel_rfl) (by kernel_rfl) (fun n => BR.drawn _ n) BR.refl (fun _ _ _ => BR.trans) ?_ ?_ ?_
  · intro i _ hi vs wA wB hG hR
    match i, hi, hG with
    | 0, _, hG => exact hG
    | 1, _, hG => exact hG
    | 2, _, hG => exact hG
    | 3, _, hG => exact hG
    | 4, _, hG => exact hG
    | 5, _, hG => exact hG
    | 6, _, hG => exact hG
    | 7, _, hG => exact hG
    | 8, _, hG => exact hG
    | 9, _, hG => obtain ⟨g, h1, h0, h2⟩ := hG; exact ⟨g, h1, h0, (hR.block _ (Array.getElem?_eq_some_iff.1 h2).1).trans h2⟩
    | 10, _, hG => exact hG
    | _ + 11, _, _ => trivial
  · intro i op hin ho act wA hR hF hD
    have sz : act.tmps.size = 46 := hF.size
    match i, hin, ho, hD with
    | 0, _, ho, hD =>
      cases ho
      have e6 := slot_tmps (show slotOf act 6 = .pointer (some ⟨w.heap.size + 1, 0, none⟩) from hF.slot 6 (by kernel_rfl))
      refine rgw_val (wanted_none rfl) (.pointer (some ⟨w.heap.size + 1, 0, none⟩)) (by simp [go_sem, e6]) (BR.refl _) ?_
      exact congrArg (fun v => [v]) (slotOf_same act 13 _ (by omega))
    | 1, _, ho, hD =>
      cases ho
      have e13 := slot_tmps (List.cons.inj (hD 0 (by decide))).1
      have hkA := (Below.block hR _ hk0l).trans hk0
      have hkc := cells_of hkA
      refine rgw_val (wanted_none rfl) (.slice ha hs.length hc) (by simp [go_sem, e13, hkc]) (BR.refl _) ?_
      exact congrArg (fun v => [v]) (slotOf_same act 14 _ (by omega))
    | 2, _, ho, hD =>
      cases ho
      have e3 := slot_tmps (show slotOf act 3 = i64 hr from hF.slot 3 (by kernel_rfl))
      refine rgw_val (wanted_none rfl) (i64 hr) (by simp [go_sem, e3]) (BR.refl _) ?_
      exact congrArg (fun v => [v]) (slotOf_same act 15 _ (by omega))
    | 3, _, ho, hD =>
      cases ho
      have e14 := slot_tmps (List.cons.inj (hD 1 (by decide))).1
      have e15 := slot_tmps (List.cons.inj (hD 2 (by decide))).1
      refine rgw_val (wanted_none rfl) (.pointer (some ⟨hb, hq + hr, none⟩)) (by simp [go_sem, e14, e15, hi40]) (BR.refl _) ?_
      exact congrArg (fun v => [v]) (slotOf_same act 16 _ (by omega))
    | 4, _, ho, hD =>
      cases ho
      have e16 := slot_tmps (List.cons.inj (hD 3 (by decide))).1
      have hHA := hH0.same (Same.of_below (Below.mono hR hb0.size))
      have hhc := hHA.cell hr hlt
      rw [hhe.out] at hhc
      refine rgw_val (wanted_none rfl) (i64 hh) (by simp [go_sem, e16, hhc]) (BR.refl _) ?_
      exact congrArg (fun v => [v]) (slotOf_same act 17 _ (by omega))
    | 5, _, ho, hD =>
      cases ho
      have e2 := slot_tmps (show slotOf act 2 = i64 0 from hF.slot 2 (by kernel_rfl))
      refine rgw_val (wanted_none rfl) (i64 0) (by simp [go_sem, e2]) (BR.refl _) ?_
      exact congrArg (fun v => [v]) (slotOf_same act 18 _ (by omega))
    | 6, _, ho, hD =>
      cases ho
      have e5 := slot_tmps (show slotOf act 5 = .pointer (some ⟨w.heap.size, 0, none⟩) from hF.slot 5 (by kernel_rfl))
      refine rgw_val (wanted_none rfl) (.pointer (some ⟨w.heap.size, 1, none⟩)) (by simp [go_sem, e5]) (BR.refl _) ?_
      exact congrArg (fun v => [v]) (slotOf_same act 19 _ (by omega))
    | 7, _, ho, hD =>
      cases ho
      have e18 := slot_tmps (List.cons.inj (hD 5 (by decide))).1
      have e19 := slot_tmps (List.cons.inj (hD 6 (by decide))).1
      refine rgw_val (wanted_none rfl) (.pointer (some ⟨w.heap.size, 1, none⟩)) (by simp [go_sem, e18, e19]) (BR.refl _) ?_
      exact congrArg (fun v => [v]) (slotOf_same act 20 _ (by omega))
    | 8, _, ho, hD =>
      cases ho
      have e20 := slot_tmps (List.cons.inj (hD 7 (by decide))).1
      have hxA := (Below.block hR _ hx0l).trans hx0
      have hxc := cells_of hxA
      refine rgw_val (wanted_none rfl) (.agg #[i64 B.s0.fl, i64 B.s0.fh, i64 B.s0.lo, i64 B.s0.hi]) (by simp [go_sem, e20, hxc]) (BR.refl _) ?_
      exact congrArg (fun v => [v]) (slotOf_same act 21 _ (by omega))
    | 9, _, ho, hD =>
      cases ho
      refine rgw_wp (wanted_none rfl) rfl ?_
      refine wp_of_run (v := .pointer (some ⟨wA.heap.size, 0, none⟩)) (w' := wA.alloc (.cells #[i64 0, i64 0, i64 0, i64 0] 26)) (by simp [go_sem]) ?_
      exact ⟨_, rfl, (Below.refl _ _).alloc (Nat.le_refl _) _, _, congrArg (fun v => [v]) (slotOf_same act 12 _ (by omega)), Nat.le_trans (Nat.le_of_eq hsz.symm) (Below.size hR), heap_alloc_new _ _⟩
    | 10, _, ho, hD =>
      cases ho
      have e17 := slot_tmps (List.cons.inj (hD 4 (by decide))).1
      refine rgw_val (wanted_none rfl) (i64 hh) (by simp [go_sem, e17]) (BR.refl _) ?_
      exact congrArg (fun v => [v]) (slotOf_same act 11 _ (by omega))
    | _ + 11, hin, _, _ => exact absurd hin (by omega)
  · intro act wA hR hF hA
    have f0 : slotOf act 0 = .agg (bookCells B ta tc sa sc) := hF.slot 0 (by kernel_rfl)
    have f2 : slotOf act 2 = i64 0 := hF.slot 2 (by kernel_rfl)
    have f3 : slotOf act 3 = i64 hr := hF.slot 3 (by kernel_rfl)
    have f4 : slotOf act 4 = i64 ld := hF.slot 4 (by kernel_rfl)
    have f5 : slotOf act 5 = .pointer (some ⟨w.heap.size, 0, none⟩) := hF.slot 5 (by kernel_rfl)
    have f6 : slotOf act 6 = .pointer (some ⟨w.heap.size + 1, 0, none⟩) := hF.slot 6 (by kernel_rfl)
    have f10 : slotOf act 10 = .bool false := hF.slot 10 (by kernel_rfl)
    have f11 : slotOf act 11 = i64 hh := (List.cons.inj (hA 10 (by decide))).1
    obtain ⟨g, d12, hzg, hg⟩ := hA 9 (by decide)
    have f12 : slotOf act 12 = .pointer (some ⟨g, 0, none⟩) := (List.cons.inj d12).1
    have f13 : slotOf act 13 = .pointer (some ⟨w.heap.size + 1, 0, none⟩) := (List.cons.inj (hA 0 (by decide))).1
    have f14 : slotOf act 14 = .slice ha hs.length hc := (List.cons.inj (hA 1 (by decide))).1
    have f15 : slotOf act 15 = i64 hr := (List.cons.inj (hA 2 (by decide))).1
    have f16 : slotOf act 16 = .pointer (some ⟨hb, hq + hr, none⟩) := (List.cons.inj (hA 3 (by decide))).1
    have f17 : slotOf act 17 = i64 hh := (List.cons.inj (hA 4 (by decide))).1
    have f18 : slotOf act 18 = i64 0 := (List.cons.inj (hA 5 (by decide))).1
    have f19 : slotOf act 19 = .pointer (some ⟨w.heap.size, 1, none⟩) := (List.cons.inj (hA 6 (by decide))).1
    have f20 : slotOf act 20 = .pointer (some ⟨w.heap.size, 1, none⟩) := (List.cons.inj (hA 7 (by decide))).1
    have f21 : slotOf act 21 = .agg #[i64 B.s0.fl, i64 B.s0.fh, i64 B.s0.lo, i64 B.s0.hi] := (List.cons.inj (hA 8 (by decide))).1
    rw [act_eta act 46 hF.size hF.defers]
    simp only [show List.range 46 = [0, 1, 2, 3, 4, 5, 6, 7, 8, 9, 10, 11, 12, 13, 14, 15, 16, 17, 18, 19, 20, 21, 22, 23, 24, 25, 26, 27, 28, 29, 30, 31, 32, 33, 34, 35, 36, 37, 38, 39, 40, 41, 42, 43, 44, 45] from rfl, List.map_cons, List.map_nil, f0, f2, f3, f4, f5, f6, f10, f11, f12, f13, f14, f15, f16, f17, f18, f19, f20, f21]
    clear hA hF f0 f2 f3 f4 f5 f6 f10 f11 f12 f13 f14 f15 f16 f17 f18 f19 f20 f21
    simp only [List.drop_succ_cons, List.drop_zero]
    have hgc := cells_of hg
    have hxA := (Below.block hR _ hx0l).trans hx0
    have hkA := (Below.block hR _ hk0l).trans hk0
    have hbA := hb0.trans (Below.mono hR hb0.size)
    have hSt := SetAt.row wA g #[i64 B.s0.fl, i64 B.s0.fh, i64 B.s0.lo, i64 B.s0.hi]
    have hbB := hSt.below (Nat.le_trans (Nat.le_add_right _ 2) hzg) hbA
    have hxB := (hSt.other w.heap.size (by omega)).trans hxA
    have hkB := (hSt.other (w.heap.size + 1) (by omega)).trans hkA
    have hgB : (wA.setRow g #[i64 B.s0.fl, i64 B.s0.fh, i64 B.s0.lo, i64 B.s0.hi]).heap[g]? = some (.cells #[i64 B.s0.fl, i64 B.s0.fh, i64 B.s0.lo, i64 B.s0.hi] 26 (0, 0)) := setRow_heap _ _ _ _ _ _ hg
    obtain ⟨wB, hwB⟩ : ∃ wB, wA.setRow g #[i64 B.s0.fl, i64 B.s0.fh, i64 B.s0.lo, i64 B.s0.hi] = wB := ⟨_, rfl⟩
    refine st26 rfl _ _ rfl g _ _ rfl rfl hg rfl rfl (by simp [Value.oneCell']) ?_
    rw [hwB] at hbB hxB hkB hgB ⊢
    clear hwB hSt hgc hxA hkA hbA hg hzg hR hx0 hk0 hx0l hk0l hsz hb0 hH0 hi40
    have hxBl := (Array.getElem?_eq_some_iff.1 hxB).1
    have hkBl := (Array.getElem?_eq_some_iff.1 hkB).1
    have hgBl := (Array.getElem?_eq_some_iff.1 hgB).1
    cases hc : decide (hh ≥ fl0 + e + Q + B.under)
    · go_wp2_with fail
      refine rg_region rdAf2s0f pureAf2s0f (gAf2s0f w B ta tc sa sc hh fl0 e ld Q) BR (by kernel_rfl) (by kernel_rfl) (fun n => BR.drawn _ n) BR.refl (fun _ _ _ => BR.trans) ?_ ?_ ?_
      · intro i hi vs wA wB hG hR
        match i, hi, hG with
        | 0, _, hG => exact hG
        | 1, _, hG => exact hG
        | 2, _, hG => exact hG
        | 3, _, hG => exact hG
        | 4, _, hG => exact hG
        | 5, _, hG => exact hG
        | 6, _, hG => exact hG
        | 7, _, hG => exact hG
        | 8, _, hG => exact hG
        | 9, _, hG => exact hG
        | 10, _, hG => exact hG
        | 11, _, hG => exact hG
        | 12, _, hG => exact hG
        | 13, _, hG => exact hG
        | 14, _, hG => exact hG
        | 15, _, hG => exact hG
        | 16, _, hG => exact hG
        | 17, _, _ => trivial
        | 18, _, _ => trivial
        | 19, _, _ => trivial
        | 20, _, _ => trivial
        | 21, _, _ => trivial
        | 22, _, _ => trivial
        | 23, _, hG => exact hG
        | 24, _, hG => exact hG
        | _ + 25, _, _ => trivial
      · intro i op ho act wA hR hF hD
        have sz : act.tmps.size = 46 := hF.size
        match i, ho, hD with
        | 0, ho, hD =>
          cases ho
          have e11 := slot_tmps (show slotOf act 11 = i64 hh from hF.slot 11 (by kernel_rfl))
          refine rgw_val (wanted_none rfl) (i64 hh) (by simp [go_sem, e11]) (BR.refl _) ?_
          exact congrArg (fun v => [v]) (slotOf_same act 22 _ (by omega))
        | 1, ho, hD =>
          cases ho
          have e2 := slot_tmps (show slotOf act 2 = i64 0 from hF.slot 2 (by kernel_rfl))
          refine rgw_val (wanted_none rfl) (i64 0) (by simp [go_sem, e2]) (BR.refl _) ?_
          exact congrArg (fun v => [v]) (slotOf_same act 23 _ (by omega))
        | 2, ho, hD =>
          cases ho
          have e6 := slot_tmps (show slotOf act 6 = .pointer (some ⟨w.heap.size + 1, 0, none⟩) from hF.slot 6 (by kernel_rfl))
          refine rgw_val (wanted_none rfl) (.pointer (some ⟨w.heap.size + 1, 1, none⟩)) (by simp [go_sem, e6]) (BR.refl _) ?_
          exact congrArg (fun v => [v]) (slotOf_same act 24 _ (by omega))
        | 3, ho, hD =>
          cases ho
          have e23 := slot_tmps (List.cons.inj (hD 1 (by decide))).1
          have e24 := slot_tmps (List.cons.inj (hD 2 (by decide))).1
          refine rgw_val (wanted_none rfl) (.pointer (some ⟨w.heap.size + 1, 1, none⟩)) (by simp [go_sem, e23, e24]) (BR.refl _) ?_
          exact congrArg (fun v => [v]) (slotOf_same act 25 _ (by omega))
        | 4, ho, hD =>
          cases ho
          have e25 := slot_tmps (List.cons.inj (hD 3 (by decide))).1
          have hkA := (Below.block hR _ hkBl).trans hkB
          have hkc := cells_of hkA
          refine rgw_val (wanted_none rfl) (i64 fl0) (by simp [go_sem, e25, hkc]) (BR.refl _) ?_
          exact congrArg (fun v => [v]) (slotOf_same act 26 _ (by omega))
        | 5, ho, hD =>
          cases ho
          have e6 := slot_tmps (show slotOf act 6 = .pointer (some ⟨w.heap.size + 1, 0, none⟩) from hF.slot 6 (by kernel_rfl))
          refine rgw_val (wanted_none rfl) (.pointer (some ⟨w.heap.size + 1, 3, none⟩)) (by simp [go_sem, e6]) (BR.refl _) ?_
          exact congrArg (fun v => [v]) (slotOf_same act 27 _ (by omega))
        | 6, ho, hD =>
          cases ho
          have e27 := slot_tmps (List.cons.inj (hD 5 (by decide))).1
          have hkA := (Below.block hR _ hkBl).trans hkB
          have hkc := cells_of hkA
          refine rgw_val (wanted_none rfl) (i64 e) (by simp [go_sem, e27, hkc]) (BR.refl _) ?_
          exact congrArg (fun v => [v]) (slotOf_same act 28 _ (by omega))
        | 7, ho, hD =>
          cases ho
          have e26 := slot_tmps (List.cons.inj (hD 4 (by decide))).1
          have e28 := slot_tmps (List.cons.inj (hD 6 (by decide))).1
          refine rgw_val (wanted_none rfl) (i64 (fl0 + e)) (by simp [go_sem, e26, e28, hw1]) (BR.refl _) ?_
          exact congrArg (fun v => [v]) (slotOf_same act 29 _ (by omega))
        | 8, ho, hD =>
          cases ho
          have e5 := slot_tmps (show slotOf act 5 = .pointer (some ⟨w.heap.size, 0, none⟩) from hF.slot 5 (by kernel_rfl))
          refine rgw_val (wanted_none rfl) (.agg (bookCells B ta tc sa sc)) (by exact ex_load_row (a := act) 30 (.tmp 5) rfl w.heap.size (show slotOf act 5 = .pointer (some ⟨w.heap.size, 0, none⟩) from hF.slot 5 (by kernel_rfl)) 30 _ (0, 0) _ ((Below.block hR _ hxBl).trans hxB) Tryd.underlying30 rfl (by rw [size30]; rfl)) (BR.refl _) ?_
          exact congrArg (fun v => [v]) (slotOf_same act 30 _ (by omega))
        | 9, ho, hD =>
          cases ho
          have e4 := slot_tmps (show slotOf act 4 = i64 ld from hF.slot 4 (by kernel_rfl))
          refine rgw_val (wanted_none rfl) (i64 ld) (by simp [go_sem, e4]) (BR.refl _) ?_
          exact congrArg (fun v => [v]) (slotOf_same act 31 _ (by omega))
        | 10, ho, hD =>
          cases ho
          have e30 := slot_tmps (List.cons.inj (hD 8 (by decide))).1
          have e31 := slot_tmps (List.cons.inj (hD 9 (by decide))).1
          refine rgw_call (wanted_none rfl) 78 #[bookVal B ta tc sa sc, i64 ld] (by simp [go_sem, e30, e31]) rfl ?_
          refine (inches_any B ta tc sa sc ld _ b4 b5 l0 l1).mono ?_
          rintro e wB ⟨rfl, hb⟩
          rw [hQ.out]
          exact ⟨_, rfl, hb, congrArg (fun v => [v]) (slotOf_same act 32 _ (by omega))⟩
        | 11, ho, hD =>
          cases ho
          have e29 := slot_tmps (List.cons.inj (hD 7 (by decide))).1
          have e32 := slot_tmps (List.cons.inj (hD 10 (by decide))).1
          refine rgw_val (wanted_none rfl) (i64 (fl0 + e + Q)) (by simp [go_sem, e29, e32, hw2]) (BR.refl _) ?_
          exact congrArg (fun v => [v]) (slotOf_same act 33 _ (by omega))
        | 12, ho, hD =>
          cases ho
          have e5 := slot_tmps (show slotOf act 5 = .pointer (some ⟨w.heap.size, 0, none⟩) from hF.slot 5 (by kernel_rfl))
          refine rgw_val (wanted_none rfl) (.pointer (some ⟨w.heap.size, 12, none⟩)) (by simp [go_sem, e5]) (BR.refl _) ?_
          exact congrArg (fun v => [v]) (slotOf_same act 34 _ (by omega))
        | 13, ho, hD =>
          cases ho
          have e34 := slot_tmps (List.cons.inj (hD 12 (by decide))).1
          have hxA := (Below.block hR _ hxBl).trans hxB
          have hxc := cells_of hxA
          refine rgw_val (wanted_none rfl) (i64 B.under) (by simp [go_sem, e34, hxc]) (BR.refl _) ?_
          exact congrArg (fun v => [v]) (slotOf_same act 35 _ (by omega))
        | 14, ho, hD =>
          cases ho
          have e33 := slot_tmps (List.cons.inj (hD 11 (by decide))).1
          have e35 := slot_tmps (List.cons.inj (hD 13 (by decide))).1
          refine rgw_val (wanted_none rfl) (i64 (fl0 + e + Q + B.under)) (by simp [go_sem, e33, e35, hw3]) (BR.refl _) ?_
          exact congrArg (fun v => [v]) (slotOf_same act 36 _ (by omega))
        | 15, ho, hD =>
          cases ho
          have e22 := slot_tmps (List.cons.inj (hD 0 (by decide))).1
          have e36 := slot_tmps (List.cons.inj (hD 14 (by decide))).1
          refine rgw_val (wanted_none rfl) (.bool false) (by simp [go_sem, e22, e36, hc]) (BR.refl _) ?_
          exact congrArg (fun v => [v]) (slotOf_same act 37 _ (by omega))
        | 16, ho, hD =>
          cases ho
          have e37 := slot_tmps (List.cons.inj (hD 15 (by decide))).1
          refine rgw_val (wanted_none rfl) (.bool false) (by simp [go_sem, e37]) (BR.refl _) ?_
          exact congrArg (fun v => [v]) (slotOf_same act 38 _ (by omega))
        | 17, ho, hD =>
          cases ho
          have dj : slotOf act 38 = .bool false := (List.cons.inj (hD 16 (by decide))).1
          refine rgw_skip (by rw [wanted_of (d := 38) rfl rfl dj]; rfl) ?_
          trivial
        | 18, ho, hD =>
          cases ho
          have dj : slotOf act 38 = .bool false := (List.cons.inj (hD 16 (by decide))).1
          refine rgw_skip (by rw [wanted_of (d := 38) rfl rfl dj]; rfl) ?_
          trivial
        | 19, ho, hD =>
          cases ho
          have dj : slotOf act 38 = .bool false := (List.cons.inj (hD 16 (by decide))).1
          refine rgw_skip (by rw [wanted_of (d := 38) rfl rfl dj]; rfl) ?_
          trivial
        | 20, ho, hD =>
          cases ho
          have dj : slotOf act 38 = .bool false := (List.cons.inj (hD 16 (by decide))).1
          refine rgw_skip (by rw [wanted_of (d := 38) rfl rfl dj]; rfl) ?_
          trivial
        | 21, ho, hD =>
          cases ho
          have dj : slotOf act 38 = .bool false := (List.cons.inj (hD 16 (by decide))).1
          refine rgw_skip (by rw [wanted_of (d := 38) rfl rfl dj]; rfl) ?_
          trivial
        | 22, ho, hD =>
          cases ho
          have dj : slotOf act 38 = .bool false := (List.cons.inj (hD 16 (by decide))).1
          refine rgw_skip (by rw [wanted_of (d := 38) rfl rfl dj]; rfl) ?_
          trivial
        | 23, ho, hD =>
          cases ho
          have e38 := slot_tmps (List.cons.inj (hD 16 (by decide))).1
          refine rgw_val (wanted_none rfl) (.bool false) (by simp [go_sem, e38]) (BR.refl _) ?_
          exact congrArg (fun v => [v]) (slotOf_same act 45 _ (by omega))
        | 24, ho, hD =>
          cases ho
          have e45 := slot_tmps (List.cons.inj (hD 23 (by decide))).1
          refine rgw_val (wanted_none rfl) (.bool false) (by simp [go_sem, e45]) (BR.refl _) ?_
          exact congrArg (fun v => [v]) (slotOf_same act 10 _ (by omega))
        | _ + 25, ho, _ => cases ho
      · intro act wA hR hF hA
        have f0 : slotOf act 0 = .agg (bookCells B ta tc sa sc) := hF.slot 0 (by kernel_rfl)
        have f2 : slotOf act 2 = i64 0 := hF.slot 2 (by kernel_rfl)
        have f3 : slotOf act 3 = i64 hr := hF.slot 3 (by kernel_rfl)
        have f4 : slotOf act 4 = i64 ld := hF.slot 4 (by kernel_rfl)
        have f5 : slotOf act 5 = .pointer (some ⟨w.heap.size, 0, none⟩) := hF.slot 5 (by kernel_rfl)
        have f6 : slotOf act 6 = .pointer (some ⟨w.heap.size + 1, 0, none⟩) := hF.slot 6 (by kernel_rfl)
        have f11 : slotOf act 11 = i64 hh := hF.slot 11 (by kernel_rfl)
        have f12 : slotOf act 12 = .pointer (some ⟨g, 0, none⟩) := hF.slot 12 (by kernel_rfl)
        have f10 : slotOf act 10 = .bool false := (List.cons.inj (hA 24 (by decide))).1
        have f22 : slotOf act 22 = i64 hh := (List.cons.inj (hA 0 (by decide))).1
        have f23 : slotOf act 23 = i64 0 := (List.cons.inj (hA 1 (by decide))).1
        have f24 : slotOf act 24 = .pointer (some ⟨w.heap.size + 1, 1, none⟩) := (List.cons.inj (hA 2 (by decide))).1
        have f25 : slotOf act 25 = .pointer (some ⟨w.heap.size + 1, 1, none⟩) := (List.cons.inj (hA 3 (by decide))).1
        have f26 : slotOf act 26 = i64 fl0 := (List.cons.inj (hA 4 (by decide))).1
        have f27 : slotOf act 27 = .pointer (some ⟨w.heap.size + 1, 3, none⟩) := (List.cons.inj (hA 5 (by decide))).1
        have f28 : slotOf act 28 = i64 e := (List.cons.inj (hA 6 (by decide))).1
        have f29 : slotOf act 29 = i64 (fl0 + e) := (List.cons.inj (hA 7 (by decide))).1
        have f30 : slotOf act 30 = .agg (bookCells B ta tc sa sc) := (List.cons.inj (hA 8 (by decide))).1
        have f31 : slotOf act 31 = i64 ld := (List.cons.inj (hA 9 (by decide))).1
        have f32 : slotOf act 32 = i64 Q := (List.cons.inj (hA 10 (by decide))).1
        have f33 : slotOf act 33 = i64 (fl0 + e + Q) := (List.cons.inj (hA 11 (by decide))).1
        have f34 : slotOf act 34 = .pointer (some ⟨w.heap.size, 12, none⟩) := (List.cons.inj (hA 12 (by decide))).1
        have f35 : slotOf act 35 = i64 B.under := (List.cons.inj (hA 13 (by decide))).1
        have f36 : slotOf act 36 = i64 (fl0 + e + Q + B.under) := (List.cons.inj (hA 14 (by decide))).1
        have f37 : slotOf act 37 = .bool false := (List.cons.inj (hA 15 (by decide))).1
        have f38 : slotOf act 38 = .bool false := (List.cons.inj (hA 16 (by decide))).1
        have f45 : slotOf act 45 = .bool false := (List.cons.inj (hA 23 (by decide))).1
        rw [act_eta act 46 hF.size hF.defers]
        simp only [show List.range 46 = [0, 1, 2, 3, 4, 5, 6, 7, 8, 9, 10, 11, 12, 13, 14, 15, 16, 17, 18, 19, 20, 21, 22, 23, 24, 25, 26, 27, 28, 29, 30, 31, 32, 33, 34, 35, 36, 37, 38, 39, 40, 41, 42, 43, 44, 45] from rfl, List.map_cons, List.map_nil, f0, f2, f3, f4, f5, f6, f11, f12, f10, f22, f23, f24, f25, f26, f27, f28, f29, f30, f31, f32, f33, f34, f35, f36, f37, f38, f45]
        clear hA hF f0 f2 f3 f4 f5 f6 f11 f12 f10 f22 f23 f24 f25 f26 f27 f28 f29 f30 f31 f32 f33 f34 f35 f36 f37 f38 f45
        go_wp2_with fail
        go_ret
        exact ⟨by rw [(hf hc).out]; rfl, hbB.trans (Below.mono hR hbB.size)⟩
    · go_wp2_with fail
      refine rg_region rdAf2s0t pureAf2s0t (gAf2s0t w B ta tc sa sc g hh fl0 e ld Q) BR (by kernel_rfl) (by kernel_rfl) (fun n => BR.drawn _ n) BR.refl (fun _ _ _ => BR.trans) ?_ ?_ ?_
      · intro i hi vs wA wB hG hR
        match i, hi, hG with
        | 0, _, hG => exact hG
        | 1, _, hG => exact hG
        | 2, _, hG => exact hG
        | 3, _, hG => exact hG
        | 4, _, hG => exact hG
        | 5, _, hG => exact hG
        | 6, _, hG => exact hG
        | 7, _, hG => exact hG
        | 8, _, hG => exact hG
        | 9, _, hG => exact hG
        | 10, _, hG => exact hG
        | 11, _, hG => exact hG
        | 12, _, hG => exact hG
        | 13, _, hG => exact hG
        | 14, _, hG => exact hG
        | 15, _, hG => exact hG
        | 16, _, hG => exact hG
        | 17, _, hG => exact hG
        | 18, _, hG => exact hG
        | 19, _, hG => exact hG
        | 20, _, hG => exact hG
        | 21, _, hG => exact hG
        | 22, _, hG => exact hG
        | 23, _, hG => exact hG
        | 24, _, hG => exact hG
        | _ + 25, _, _ => trivial
      · intro i op ho act wA hR hF hD
        have sz : act.tmps.size = 46 := hF.size
        match i, ho, hD with
        | 0, ho, hD =>
          cases ho
          have e11 := slot_tmps (show slotOf act 11 = i64 hh from hF.slot 11 (by kernel_rfl))
          refine rgw_val (wanted_none rfl) (i64 hh) (by simp [go_sem, e11]) (BR.refl _) ?_
          exact congrArg (fun v => [v]) (slotOf_same act 22 _ (by omega))
        | 1, ho, hD =>
          cases ho
          have e2 := slot_tmps (show slotOf act 2 = i64 0 from hF.slot 2 (by kernel_rfl))
          refine rgw_val (wanted_none rfl) (i64 0) (by simp [go_sem, e2]) (BR.refl _) ?_
          exact congrArg (fun v => [v]) (slotOf_same act 23 _ (by omega))
        | 2, ho, hD =>
          cases ho
          have e6 := slot_tmps (show slotOf act 6 = .pointer (some ⟨w.heap.size + 1, 0, none⟩) from hF.slot 6 (by kernel_rfl))
          refine rgw_val (wanted_none rfl) (.pointer (some ⟨w.heap.size + 1, 1, none⟩)) (by simp [go_sem, e6]) (BR.refl _) ?_
          exact congrArg (fun v => [v]) (slotOf_same act 24 _ (by omega))
        | 3, ho, hD =>
          cases ho
          have e23 := slot_tmps (List.cons.inj (hD 1 (by decide))).1
          have e24 := slot_tmps (List.cons.inj (hD 2 (by decide))).1
          refine rgw_val (wanted_none rfl) (.pointer (some ⟨w.heap.size + 1, 1, none⟩)) (by simp [go_sem, e23, e24]) (BR.refl _) ?_
          exact congrArg (fun v => [v]) (slotOf_same act 25 _ (by omega))
        | 4, ho, hD =>
          cases ho
          have e25 := slot_tmps (List.cons.inj (hD 3 (by decide))).1
          have hkA := (Below.block hR _ hkBl).trans hkB
          have hkc := cells_of hkA
          refine rgw_val (wanted_none rfl) (i64 fl0) (by simp [go_sem, e25, hkc]) (BR.refl _) ?_
          exact congrArg (fun v => [v]) (slotOf_same act 26 _ (by omega))
        | 5, ho, hD =>
          cases ho
          have e6 := slot_tmps (show slotOf act 6 = .pointer (some ⟨w.heap.size + 1, 0, none⟩) from hF.slot 6 (by kernel_rfl))
          refine rgw_val (wanted_none rfl) (.pointer (some ⟨w.heap.size + 1, 3, none⟩)) (by simp [go_sem, e6]) (BR.refl _) ?_
          exact congrArg (fun v => [v]) (slotOf_same act 27 _ (by omega))
        | 6, ho, hD =>
          cases ho
          have e27 := slot_tmps (List.cons.inj (hD 5 (by decide))).1
          have hkA := (Below.block hR _ hkBl).trans hkB
          have hkc := cells_of hkA
          refine rgw_val (wanted_none rfl) (i64 e) (by simp [go_sem, e27, hkc]) (BR.refl _) ?_
          exact congrArg (fun v => [v]) (slotOf_same act 28 _ (by omega))
        | 7, ho, hD =>
          cases ho
          have e26 := slot_tmps (List.cons.inj (hD 4 (by decide))).1
          have e28 := slot_tmps (List.cons.inj (hD 6 (by decide))).1
          refine rgw_val (wanted_none rfl) (i64 (fl0 + e)) (by simp [go_sem, e26, e28, hw1]) (BR.refl _) ?_
          exact congrArg (fun v => [v]) (slotOf_same act 29 _ (by omega))
        | 8, ho, hD =>
          cases ho
          have e5 := slot_tmps (show slotOf act 5 = .pointer (some ⟨w.heap.size, 0, none⟩) from hF.slot 5 (by kernel_rfl))
          refine rgw_val (wanted_none rfl) (.agg (bookCells B ta tc sa sc)) (by exact ex_load_row (a := act) 30 (.tmp 5) rfl w.heap.size (show slotOf act 5 = .pointer (some ⟨w.heap.size, 0, none⟩) from hF.slot 5 (by kernel_rfl)) 30 _ (0, 0) _ ((Below.block hR _ hxBl).trans hxB) Tryd.underlying30 rfl (by rw [size30]; rfl)) (BR.refl _) ?_
          exact congrArg (fun v => [v]) (slotOf_same act 30 _ (by omega))
        | 9, ho, hD =>
          cases ho
          have e4 := slot_tmps (show slotOf act 4 = i64 ld from hF.slot 4 (by kernel_rfl))
          refine rgw_val (wanted_none rfl) (i64 ld) (by simp [go_sem, e4]) (BR.refl _) ?_
          exact congrArg (fun v => [v]) (slotOf_same act 31 _ (by omega))
        | 10, ho, hD =>
          cases ho
          have e30 := slot_tmps (List.cons.inj (hD 8 (by decide))).1
          have e31 := slot_tmps (List.cons.inj (hD 9 (by decide))).1
          refine rgw_call (wanted_none rfl) 78 #[bookVal B ta tc sa sc, i64 ld] (by simp [go_sem, e30, e31]) rfl ?_
          refine (inches_any B ta tc sa sc ld _ b4 b5 l0 l1).mono ?_
          rintro e wB ⟨rfl, hb⟩
          rw [hQ.out]
          exact ⟨_, rfl, hb, congrArg (fun v => [v]) (slotOf_same act 32 _ (by omega))⟩
        | 11, ho, hD =>
          cases ho
          have e29 := slot_tmps (List.cons.inj (hD 7 (by decide))).1
          have e32 := slot_tmps (List.cons.inj (hD 10 (by decide))).1
          refine rgw_val (wanted_none rfl) (i64 (fl0 + e + Q)) (by simp [go_sem, e29, e32, hw2]) (BR.refl _) ?_
          exact congrArg (fun v => [v]) (slotOf_same act 33 _ (by omega))
        | 12, ho, hD =>
          cases ho
          have e5 := slot_tmps (show slotOf act 5 = .pointer (some ⟨w.heap.size, 0, none⟩) from hF.slot 5 (by kernel_rfl))
          refine rgw_val (wanted_none rfl) (.pointer (some ⟨w.heap.size, 12, none⟩)) (by simp [go_sem, e5]) (BR.refl _) ?_
          exact congrArg (fun v => [v]) (slotOf_same act 34 _ (by omega))
        | 13, ho, hD =>
          cases ho
          have e34 := slot_tmps (List.cons.inj (hD 12 (by decide))).1
          have hxA := (Below.block hR _ hxBl).trans hxB
          have hxc := cells_of hxA
          refine rgw_val (wanted_none rfl) (i64 B.under) (by simp [go_sem, e34, hxc]) (BR.refl _) ?_
          exact congrArg (fun v => [v]) (slotOf_same act 35 _ (by omega))
        | 14, ho, hD =>
          cases ho
          have e33 := slot_tmps (List.cons.inj (hD 11 (by decide))).1
          have e35 := slot_tmps (List.cons.inj (hD 13 (by decide))).1
          refine rgw_val (wanted_none rfl) (i64 (fl0 + e + Q + B.under)) (by simp [go_sem, e33, e35, hw3]) (BR.refl _) ?_
          exact congrArg (fun v => [v]) (slotOf_same act 36 _ (by omega))
        | 15, ho, hD =>
          cases ho
          have e22 := slot_tmps (List.cons.inj (hD 0 (by decide))).1
          have e36 := slot_tmps (List.cons.inj (hD 14 (by decide))).1
          refine rgw_val (wanted_none rfl) (.bool true) (by simp [go_sem, e22, e36, hc]) (BR.refl _) ?_
          exact congrArg (fun v => [v]) (slotOf_same act 37 _ (by omega))
        | 16, ho, hD =>
          cases ho
          have e37 := slot_tmps (List.cons.inj (hD 15 (by decide))).1
          refine rgw_val (wanted_none rfl) (.bool true) (by simp [go_sem, e37]) (BR.refl _) ?_
          exact congrArg (fun v => [v]) (slotOf_same act 38 _ (by omega))
        | 17, ho, hD =>
          cases ho
          have dj : slotOf act 38 = .bool true := (List.cons.inj (hD 16 (by decide))).1
          have e11 := slot_tmps (show slotOf act 11 = i64 hh from hF.slot 11 (by kernel_rfl))
          refine rgw_val (by rw [wanted_of (d := 38) rfl rfl dj]; rfl) (i64 hh) (by simp [go_sem, e11]) (BR.refl _) ?_
          exact congrArg (fun v => [v]) (slotOf_same act 39 _ (by omega))
        | 18, ho, hD =>
          cases ho
          have dj : slotOf act 38 = .bool true := (List.cons.inj (hD 16 (by decide))).1
          have e12 := slot_tmps (show slotOf act 12 = .pointer (some ⟨g, 0, none⟩) from hF.slot 12 (by kernel_rfl))
          refine rgw_val (by rw [wanted_of (d := 38) rfl rfl dj]; rfl) (.pointer (some ⟨g, 2, none⟩)) (by simp [go_sem, e12]) (BR.refl _) ?_
          exact congrArg (fun v => [v]) (slotOf_same act 40 _ (by omega))
        | 19, ho, hD =>
          cases ho
          have dj : slotOf act 38 = .bool true := (List.cons.inj (hD 16 (by decide))).1
          have e40 := slot_tmps (List.cons.inj (hD 18 (by decide))).1
          have hgA := (Below.block hR _ hgBl).trans hgB
          have hgc := cells_of hgA
          refine rgw_val (by rw [wanted_of (d := 38) rfl rfl dj]; rfl) (i64 B.s0.lo) (by simp [go_sem, e40, hgc]) (BR.refl _) ?_
          exact congrArg (fun v => [v]) (slotOf_same act 41 _ (by omega))
        | 20, ho, hD =>
          cases ho
          have dj : slotOf act 38 = .bool true := (List.cons.inj (hD 16 (by decide))).1
          have e12 := slot_tmps (show slotOf act 12 = .pointer (some ⟨g, 0, none⟩) from hF.slot 12 (by kernel_rfl))
          refine rgw_val (by rw [wanted_of (d := 38) rfl rfl dj]; rfl) (.pointer (some ⟨g, 3, none⟩)) (by simp [go_sem, e12]) (BR.refl _) ?_
          exact congrArg (fun v => [v]) (slotOf_same act 42 _ (by omega))
        | 21, ho, hD =>
          cases ho
          have dj : slotOf act 38 = .bool true := (List.cons.inj (hD 16 (by decide))).1
          have e42 := slot_tmps (List.cons.inj (hD 20 (by decide))).1
          have hgA := (Below.block hR _ hgBl).trans hgB
          have hgc := cells_of hgA
          refine rgw_val (by rw [wanted_of (d := 38) rfl rfl dj]; rfl) (i64 B.s0.hi) (by simp [go_sem, e42, hgc]) (BR.refl _) ?_
          exact congrArg (fun v => [v]) (slotOf_same act 43 _ (by omega))
        | 22, ho, hD =>
          cases ho
          have dj : slotOf act 38 = .bool true := (List.cons.inj (hD 16 (by decide))).1
          have e39 := slot_tmps (List.cons.inj (hD 17 (by decide))).1
          have e41 := slot_tmps (List.cons.inj (hD 19 (by decide))).1
          have e43 := slot_tmps (List.cons.inj (hD 21 (by decide))).1
          refine rgw_call (by rw [wanted_of (d := 38) rfl rfl dj]; rfl) 31 #[i64 hh, i64 B.s0.lo, i64 B.s0.hi] (by simp [go_sem, e39, e41, e43]) rfl ?_
          refine (inside_any _ _ _ _).mono ?_
          rintro e wB ⟨rfl, rfl⟩
          exact ⟨_, rfl, BR.refl _, congrArg (fun v => [v]) (slotOf_same act 44 _ (by omega))⟩
        | 23, ho, hD =>
          cases ho
          have e38 := slot_tmps (List.cons.inj (hD 16 (by decide))).1
          have e44 := slot_tmps (List.cons.inj (hD 22 (by decide))).1
          refine rgw_val (wanted_none rfl) (.bool (inB hh B.s0.lo B.s0.hi)) (by simp [go_sem, e38, e44]) (BR.refl _) ?_
          exact congrArg (fun v => [v]) (slotOf_same act 45 _ (by omega))
        | 24, ho, hD =>
          cases ho
          have e45 := slot_tmps (List.cons.inj (hD 23 (by decide))).1
          refine rgw_val (wanted_none rfl) (.bool (inB hh B.s0.lo B.s0.hi)) (by simp [go_sem, e45]) (BR.refl _) ?_
          exact congrArg (fun v => [v]) (slotOf_same act 10 _ (by omega))
        | _ + 25, ho, _ => cases ho
      · intro act wA hR hF hA
        have f0 : slotOf act 0 = .agg (bookCells B ta tc sa sc) := hF.slot 0 (by kernel_rfl)
        have f2 : slotOf act 2 = i64 0 := hF.slot 2 (by kernel_rfl)
        have f3 : slotOf act 3 = i64 hr := hF.slot 3 (by kernel_rfl)
        have f4 : slotOf act 4 = i64 ld := hF.slot 4 (by kernel_rfl)
        have f5 : slotOf act 5 = .pointer (some ⟨w.heap.size, 0, none⟩) := hF.slot 5 (by kernel_rfl)
        have f6 : slotOf act 6 = .pointer (some ⟨w.heap.size + 1, 0, none⟩) := hF.slot 6 (by kernel_rfl)
        have f11 : slotOf act 11 = i64 hh := hF.slot 11 (by kernel_rfl)
        have f12 : slotOf act 12 = .pointer (some ⟨g, 0, none⟩) := hF.slot 12 (by kernel_rfl)
        have f10 : slotOf act 10 = .bool (inB hh B.s0.lo B.s0.hi) := (List.cons.inj (hA 24 (by decide))).1
        have f22 : slotOf act 22 = i64 hh := (List.cons.inj (hA 0 (by decide))).1
        have f23 : slotOf act 23 = i64 0 := (List.cons.inj (hA 1 (by decide))).1
        have f24 : slotOf act 24 = .pointer (some ⟨w.heap.size + 1, 1, none⟩) := (List.cons.inj (hA 2 (by decide))).1
        have f25 : slotOf act 25 = .pointer (some ⟨w.heap.size + 1, 1, none⟩) := (List.cons.inj (hA 3 (by decide))).1
        have f26 : slotOf act 26 = i64 fl0 := (List.cons.inj (hA 4 (by decide))).1
        have f27 : slotOf act 27 = .pointer (some ⟨w.heap.size + 1, 3, none⟩) := (List.cons.inj (hA 5 (by decide))).1
        have f28 : slotOf act 28 = i64 e := (List.cons.inj (hA 6 (by decide))).1
        have f29 : slotOf act 29 = i64 (fl0 + e) := (List.cons.inj (hA 7 (by decide))).1
        have f30 : slotOf act 30 = .agg (bookCells B ta tc sa sc) := (List.cons.inj (hA 8 (by decide))).1
        have f31 : slotOf act 31 = i64 ld := (List.cons.inj (hA 9 (by decide))).1
        have f32 : slotOf act 32 = i64 Q := (List.cons.inj (hA 10 (by decide))).1
        have f33 : slotOf act 33 = i64 (fl0 + e + Q) := (List.cons.inj (hA 11 (by decide))).1
        have f34 : slotOf act 34 = .pointer (some ⟨w.heap.size, 12, none⟩) := (List.cons.inj (hA 12 (by decide))).1
        have f35 : slotOf act 35 = i64 B.under := (List.cons.inj (hA 13 (by decide))).1
        have f36 : slotOf act 36 = i64 (fl0 + e + Q + B.under) := (List.cons.inj (hA 14 (by decide))).1
        have f37 : slotOf act 37 = .bool true := (List.cons.inj (hA 15 (by decide))).1
        have f38 : slotOf act 38 = .bool true := (List.cons.inj (hA 16 (by decide))).1
        have f39 : slotOf act 39 = i64 hh := (List.cons.inj (hA 17 (by decide))).1
        have f40 : slotOf act 40 = .pointer (some ⟨g, 2, none⟩) := (List.cons.inj (hA 18 (by decide))).1
        have f41 : slotOf act 41 = i64 B.s0.lo := (List.cons.inj (hA 19 (by decide))).1
        have f42 : slotOf act 42 = .pointer (some ⟨g, 3, none⟩) := (List.cons.inj (hA 20 (by decide))).1
        have f43 : slotOf act 43 = i64 B.s0.hi := (List.cons.inj (hA 21 (by decide))).1
        have f44 : slotOf act 44 = .bool (inB hh B.s0.lo B.s0.hi) := (List.cons.inj (hA 22 (by decide))).1
        have f45 : slotOf act 45 = .bool (inB hh B.s0.lo B.s0.hi) := (List.cons.inj (hA 23 (by decide))).1
        rw [act_eta act 46 hF.size hF.defers]
        simp only [show List.range 46 = [0, 1, 2, 3, 4, 5, 6, 7, 8, 9, 10, 11, 12, 13, 14, 15, 16, 17, 18, 19, 20, 21, 22, 23, 24, 25, 26, 27, 28, 29, 30, 31, 32, 33, 34, 35, 36, 37, 38, 39, 40, 41, 42, 43, 44, 45] from rfl, List.map_cons, List.map_nil, f0, f2, f3, f4, f5, f6, f11, f12, f10, f22, f23, f24, f25, f26, f27, f28, f29, f30, f31, f32, f33, f34, f35, f36, f37, f38, f39, f40, f41, f42, f43, f44, f45]
        clear hA hF f0 f2 f3 f4 f5 f6 f11 f12 f10 f22 f23 f24 f25 f26 f27 f28 f29 f30 f31 f32 f33 f34 f35 f36 f37 f38 f39 f40 f41 f42 f43 f44 f45
        go_wp2_with fail
        go_ret
        exact ⟨by rw [(ht hc).out]; rfl, hbB.trans (Below.mono hR hbB.size)⟩

set_option maxRecDepth 100000 in
set_option maxHeartbeats 4000000 in
theorem afloat1_any (B : Book) (ta : Option Addr) (tc : Nat) (sa : Option Addr) (sc : Nat) (hb hq : Nat) (ha : Option Addr) (hc : Nat) (hs : List Int) (fl0 fl1 e : Int) (hr : Nat) (ld : Int) (w : World) (hH : IntsAt w.heap.size w hb hq ha hs) (hlt : hr < hs.length) (hh : Int) (hhe : Hid (hs[hr] = hh))
    (hV : Sane B) (r2 : -1000 ≤ fl1 ∧ fl1 ≤ 1000) (r4 : 0 ≤ e ∧ e ≤ 100) (l0 : 0 ≤ ld) (l1 : ld ≤ 1000) :
    Calls Tryd.prog 32 #[bookVal B ta tc sa sc, .agg #[.slice ha hs.length hc, i64 fl0, i64 fl1, i64 e], i64 1, i64 hr, i64 ld] w (SomePost (landsB B 1 ld hh fl1 e) w) := by
  have hb0 : Below w.heap.size w ((w.alloc (.cells (bookCells B ta tc sa sc) 30)).alloc (.cells #[.slice ha hs.length hc, i64 fl0, i64 fl1, i64 e] 43)) := ((Below.refl _ w).alloc (Nat.le_refl _) _).alloc (by simp) _
  have hx0 : ((w.alloc (.cells (bookCells B ta tc sa sc) 30)).alloc (.cells #[.slice ha hs.length hc, i64 fl0, i64 fl1, i64 e] 43)).heap[w.heap.size]? = some (.cells (bookCells B ta tc sa sc) 30 (0, 0)) := (Below.heap_alloc _ _ _ (by simp)).trans (heap_alloc_new w _)
  have hk0 : ((w.alloc (.cells (bookCells B ta tc sa sc) 30)).alloc (.cells #[.slice ha hs.length hc, i64 fl0, i64 fl1, i64 e] 43)).heap[w.heap.size + 1]? = some (.cells #[.slice ha hs.length hc, i64 fl0, i64 fl1, i64 e] 43 (0, 0)) := heap_alloc2_new w _ _
  have hx0l := (Array.getElem?_eq_some_iff.1 hx0).1
  have hk0l := (Array.getElem?_eq_some_iff.1 hk0).1
  have hH0 := hH.same (Same.of_below hb0)
  have hi40 := fun W => idx40 (n := hs.length) (c := hc) (k := hr) W (hH.at_ (ne_nil_of_lt hlt)) hlt
  have hsz : ((w.alloc (.cells (bookCells B ta tc sa sc) 30)).alloc (.cells #[.slice ha hs.length hc, i64 fl0, i64 fl1, i64 e] 43)).heap.size = w.heap.size + 2 := by simp
  obtain ⟨b1, b2, b3, b4, b5, b6, b7⟩ := hV
  have hinch := inch_range (B := B) b4 b5 l0 l1
  obtain ⟨Q, hQ⟩ : ∃ Q, Hid (inchI B ld = Q) := ⟨_, rfl⟩
  rw [hQ.out] at hinch
  have hw1 : IntKind.i64.wrap (fl1 + e) = fl1 + e := wrap_fit (by omega) (by omega)
  have hw2 : IntKind.i64.wrap (fl1 + e + Q) = fl1 + e + Q := wrap_fit (by omega) (by omega)
  have hw3 : IntKind.i64.wrap (fl1 + e + Q + B.under) = fl1 + e + Q + B.under := wrap_fit (by omega) (by omega)
  have hf : decide (hh ≥ fl1 + e + Q + B.under) = false → Hid (landsB B 1 ld hh fl1 e = false) := fun h => by
    show _ = _
    have h2 := of_decide_eq_false h
    have h3 : decide (hh - fl1 ≥ e + (ld + B.sink - 1) / B.sink + B.under) = false := by
      have : (ld + B.sink - 1) / B.sink = Q := hQ.out
      rw [this]
      simp only [decide_eq_false_iff_not]
      omega
    unfold landsB
    rw [h3]
    rfl
  have ht : decide (hh ≥ fl1 + e + Q + B.under) = true → Hid (landsB B 1 ld hh fl1 e = inB hh B.s1.lo B.s1.hi) := fun h => by
    show _ = _
    have h2 := of_decide_eq_true h
    have h3 : decide (hh - fl1 ≥ e + (ld + B.sink - 1) / B.sink + B.under) = true := by
      have : (ld + B.sink - 1) / B.sink = Q := hQ.out
      rw [this]
      simp only [decide_eq_true_eq]
      omega
    unfold landsB
    rw [h3]
    rfl
  go_enter Tryd.func32, Tryd.ntmps32
  go_wp2_with fail
  refine rl_region 11 rdAf1s1 pureAf1s1 (gAf1s1 w B hs hb hq ha hc hr hh) BR (by kernel_rfl) (by kernel_rfl) (by kernel_rfl) (by kernel_rfl) (by kernel_rfl) (by kernel_rfl) (fun n => BR.drawn _ n) BR.refl (fun _ _ _ => BR.trans) ?_ ?_ ?_
  · intro i _ hi vs wA wB hG hR
    match i, hi, hG with
    | 0, _, hG => exact hG
    | 1, _, hG => exact hG
    | 2, _, hG => exact hG
    | 3, _, hG => exact hG
    | 4, _, hG => exact hG
    | 5, _, hG => exact hG
    | 6, _, hG => exact hG
    | 7, _, hG => exact hG
    | 8, _, hG => exact hG
    | 9, _, hG => obtain ⟨g, h1, h0, h2⟩ := hG; exact ⟨g, h1, h0, (hR.block _ (Array.getElem?_eq_some_iff.1 h2).1).trans h2⟩
    | 10, _, hG => exact hG
    | _ + 11, _, _ => trivial
  · intro i op hin ho act wA hR hF hD
    have sz : act.tmps.size = 46 := hF.size
    match i, hin, ho, hD with
    | 0, _, ho, hD =>
      cases ho
      have e6 := slot_tmps (show slotOf act 6 = .pointer (some ⟨w.heap.size + 1, 0, none⟩) from hF.slot 6 (by kernel_rfl))
      refine rgw_val (wanted_none rfl) (.pointer (some ⟨w.heap.size + 1, 0, none⟩)) (by simp [go_sem, e6]) (BR.refl _) ?_
      exact congrArg (fun v => [v]) (slotOf_same act 13 _ (by omega))
    | 1, _, ho, hD =>
      cases ho
      have e13 := slot_tmps (List.cons.inj (hD 0 (by decide))).1
      have hkA := (Below.block hR _ hk0l).trans hk0
      have hkc := cells_of hkA
      refine rgw_val (wanted_none rfl) (.slice ha hs.length hc) (by simp [go_sem, e13, hkc]) (BR.refl _) ?_
      exact congrArg (fun v => [v]) (slotOf_same act 14 _ (by omega))
    | 2, _, ho, hD =>
      cases ho
      have e3 := slot_tmps (show slotOf act 3 = i64 hr from hF.slot 3 (by kernel_rfl))
      refine rgw_val (wanted_none rfl) (i64 hr) (by simp [go_sem, e3]) (BR.refl _) ?_
      exact congrArg (fun v => [v]) (slotOf_same act 15 _ (by omega))
    | 3, _, ho, hD =>
      cases ho
      have e14 := slot_tmps (List.cons.inj (hD 1 (by decide))).1
      have e15 := slot_tmps (List.cons.inj (hD 2 (by decide))).1
      refine rgw_val (wanted_none rfl) (.pointer (some ⟨hb, hq + hr, none⟩)) (by simp [go_sem, e14, e15, hi40]) (BR.refl _) ?_
      exact congrArg (fun v => [v]) (slotOf_same act 16 _ (by omega))
    | 4, _, ho, hD =>
      cases ho
      have e16 := slot_tmps (List.cons.inj (hD 3 (by decide))).1
      have hHA := hH0.same (Same.of_below (Below.mono hR hb0.size))
      have hhc := hHA.cell hr hlt
      rw [hhe.out] at hhc
      refine rgw_val (wanted_none rfl) (i64 hh) (by simp [go_sem, e16, hhc]) (BR.refl _) ?_
      exact congrArg (fun v => [v]) (slotOf_same act 17 _ (by omega))
    | 5, _, ho, hD =>
      cases ho
      have e2 := slot_tmps (show slotOf act 2 = i64 1 from hF.slot 2 (by kernel_rfl))
      refine rgw_val (wanted_none rfl) (i64 1) (by simp [go_sem, e2]) (BR.refl _) ?_
      exact congrArg (fun v => [v]) (slotOf_same act 18 _ (by omega))
    | 6, _, ho, hD =>
      cases ho
      have e5 := slot_tmps (show slotOf act 5 = .pointer (some ⟨w.heap.size, 0, none⟩) from hF.slot 5 (by kernel_rfl))
      refine rgw_val (wanted_none rfl) (.pointer (some ⟨w.heap.size, 1, none⟩)) (by simp [go_sem, e5]) (BR.refl _) ?_
      exact congrArg (fun v => [v]) (slotOf_same act 19 _ (by omega))
    | 7, _, ho, hD =>
      cases ho
      have e18 := slot_tmps (List.cons.inj (hD 5 (by decide))).1
      have e19 := slot_tmps (List.cons.inj (hD 6 (by decide))).1
      refine rgw_val (wanted_none rfl) (.pointer (some ⟨w.heap.size, 5, none⟩)) (by simp [go_sem, e18, e19]) (BR.refl _) ?_
      exact congrArg (fun v => [v]) (slotOf_same act 20 _ (by omega))
    | 8, _, ho, hD =>
      cases ho
      have e20 := slot_tmps (List.cons.inj (hD 7 (by decide))).1
      have hxA := (Below.block hR _ hx0l).trans hx0
      have hxc := cells_of hxA
      refine rgw_val (wanted_none rfl) (.agg #[i64 B.s1.fl, i64 B.s1.fh, i64 B.s1.lo, i64 B.s1.hi]) (by simp [go_sem, e20, hxc]) (BR.refl _) ?_
      exact congrArg (fun v => [v]) (slotOf_same act 21 _ (by omega))
    | 9, _, ho, hD =>
      cases ho
      refine rgw_wp (wanted_none rfl) rfl ?_
      refine wp_of_run (v := .pointer (some ⟨wA.heap.size, 0, none⟩)) (w' := wA.alloc (.cells #[i64 0, i64 0, i64 0, i64 0] 26)) (by simp [go_sem]) ?_
      exact ⟨_, rfl, (Below.refl _ _).alloc (Nat.le_refl _) _, _, congrArg (fun v => [v]) (slotOf_same act 12 _ (by omega)), Nat.le_trans (Nat.le_of_eq hsz.symm) (Below.size hR), heap_alloc_new _ _⟩
    | 10, _, ho, hD =>
      cases ho
      have e17 := slot_tmps (List.cons.inj (hD 4 (by decide))).1
      refine rgw_val (wanted_none rfl) (i64 hh) (by simp [go_sem, e17]) (BR.refl _) ?_
      exact congrArg (fun v => [v]) (slotOf_same act 11 _ (by omega))
    | _ + 11, hin, _, _ => exact absurd hin (by omega)
  · intro act wA hR hF hA
    have f0 : slotOf act 0 = .agg (bookCells B ta tc sa sc) := hF.slot 0 (by kernel_rfl)
    have f2 : slotOf act 2 = i64 1 := hF.slot 2 (by kernel_rfl)
    have f3 : slotOf act 3 = i64 hr := hF.slot 3 (by kernel_rfl)
    have f4 : slotOf act 4 = i64 ld := hF.slot 4 (by kernel_rfl)
    have f5 : slotOf act 5 = .pointer (some ⟨w.heap.size, 0, none⟩) := hF.slot 5 (by kernel_rfl)
    have f6 : slotOf act 6 = .pointer (some ⟨w.heap.size + 1, 0, none⟩) := hF.slot 6 (by kernel_rfl)
    have f10 : slotOf act 10 = .bool false := hF.slot 10 (by kernel_rfl)
    have f11 : slotOf act 11 = i64 hh := (List.cons.inj (hA 10 (by decide))).1
    obtain ⟨g, d12, hzg, hg⟩ := hA 9 (by decide)
    have f12 : slotOf act 12 = .pointer (some ⟨g, 0, none⟩) := (List.cons.inj d12).1
    have f13 : slotOf act 13 = .pointer (some ⟨w.heap.size + 1, 0, none⟩) := (List.cons.inj (hA 0 (by decide))).1
    have f14 : slotOf act 14 = .slice ha hs.length hc := (List.cons.inj (hA 1 (by decide))).1
    have f15 : slotOf act 15 = i64 hr := (List.cons.inj (hA 2 (by decide))).1
    have f16 : slotOf act 16 = .pointer (some ⟨hb, hq + hr, none⟩) := (List.cons.inj (hA 3 (by decide))).1
    have f17 : slotOf act 17 = i64 hh := (List.cons.inj (hA 4 (by decide))).1
    have f18 : slotOf act 18 = i64 1 := (List.cons.inj (hA 5 (by decide))).1
    have f19 : slotOf act 19 = .pointer (some ⟨w.heap.size, 1, none⟩) := (List.cons.inj (hA 6 (by decide))).1
    have f20 : slotOf act 20 = .pointer (some ⟨w.heap.size, 5, none⟩) := (List.cons.inj (hA 7 (by decide))).1
    have f21 : slotOf act 21 = .agg #[i64 B.s1.fl, i64 B.s1.fh, i64 B.s1.lo, i64 B.s1.hi] := (List.cons.inj (hA 8 (by decide))).1
    rw [act_eta act 46 hF.size hF.defers]
    simp only [show List.range 46 = [0, 1, 2, 3, 4, 5, 6, 7, 8, 9, 10, 11, 12, 13, 14, 15, 16, 17, 18, 19, 20, 21, 22, 23, 24, 25, 26, 27, 28, 29, 30, 31, 32, 33, 34, 35, 36, 37, 38, 39, 40, 41, 42, 43, 44, 45] from rfl, List.map_cons, List.map_nil, f0, f2, f3, f4, f5, f6, f10, f11, f12, f13, f14, f15, f16, f17, f18, f19, f20, f21]
    clear hA hF f0 f2 f3 f4 f5 f6 f10 f11 f12 f13 f14 f15 f16 f17 f18 f19 f20 f21
    simp only [List.drop_succ_cons, List.drop_zero]
    have hgc := cells_of hg
    have hxA := (Below.block hR _ hx0l).trans hx0
    have hkA := (Below.block hR _ hk0l).trans hk0
    have hbA := hb0.trans (Below.mono hR hb0.size)
    have hSt := SetAt.row wA g #[i64 B.s1.fl, i64 B.s1.fh, i64 B.s1.lo, i64 B.s1.hi]
    have hbB := hSt.below (Nat.le_trans (Nat.le_add_right _ 2) hzg) hbA
    have hxB := (hSt.other w.heap.size (by omega)).trans hxA
    have hkB := (hSt.other (w.heap.size + 1) (by omega)).trans hkA
    have hgB : (wA.setRow g #[i64 B.s1.fl, i64 B.s1.fh, i64 B.s1.lo, i64 B.s1.hi]).heap[g]? = some (.cells #[i64 B.s1.fl, i64 B.s1.fh, i64 B.s1.lo, i64 B.s1.hi] 26 (0, 0)) := setRow_heap _ _ _ _ _ _ hg
    obtain ⟨wB, hwB⟩ : ∃ wB, wA.setRow g #[i64 B.s1.fl, i64 B.s1.fh, i64 B.s1.lo, i64 B.s1.hi] = wB := ⟨_, rfl⟩
    refine st26 rfl _ _ rfl g _ _ rfl rfl hg rfl rfl (by simp [Value.oneCell']) ?_
    rw [hwB] at hbB hxB hkB hgB ⊢
    clear hwB hSt hgc hxA hkA hbA hg hzg hR hx0 hk0 hx0l hk0l hsz hb0 hH0 hi40
    have hxBl := (Array.getElem?_eq_some_iff.1 hxB).1
    have hkBl := (Array.getElem?_eq_some_iff.1 hkB).1
    have hgBl := (Array.getElem?_eq_some_iff.1 hgB).1
    cases hc : decide (hh ≥ fl1 + e + Q + B.under)
    · go_wp2_with fail
      refine rg_region rdAf2s1f pureAf2s1f (gAf2s1f w B ta tc sa sc hh fl1 e ld Q) BR (by kernel_rfl) (by kernel_rfl) (fun n => BR.drawn _ n) BR.refl (fun _ _ _ => BR.trans) ?_ ?_ ?_
      · intro i hi vs wA wB hG hR
        match i, hi, hG with
        | 0, _, hG => exact hG
        | 1, _, hG => exact hG
        | 2, _, hG => exact hG
        | 3, _, hG => exact hG
        | 4, _, hG => exact hG
        | 5, _, hG => exact hG
        | 6, _, hG => exact hG
        | 7, _, hG => exact hG
        | 8, _, hG => exact hG
        | 9, _, hG => exact hG
        | 10, _, hG => exact hG
        | 11, _, hG => exact hG
        | 12, _, hG => exact hG
        | 13, _, hG => exact hG
        | 14, _, hG => exact hG
        | 15, _, hG => exact hG
        | 16, _, hG => exact hG
        | 17, _, _ => trivial
        | 18, _, _ => trivial
        | 19, _, _ => trivial
        | 20, _, _ => trivial
        | 21, _, _ => trivial
        | 22, _, _ => trivial
        | 23, _, hG => exact hG
        | 24, _, hG => exact hG
        | _ + 25, _, _ => trivial
      · intro i op ho act wA hR hF hD
        have sz : act.tmps.size = 46 := hF.size
        match i, ho, hD with
        | 0, ho, hD =>
          cases ho
          have e11 := slot_tmps (show slotOf act 11 = i64 hh from hF.slot 11 (by kernel_rfl))
          refine rgw_val (wanted_none rfl) (i64 hh) (by simp [go_sem, e11]) (BR.refl _) ?_
          exact congrArg (fun v => [v]) (slotOf_same act 22 _ (by omega))
        | 1, ho, hD =>
          cases ho
          have e2 := slot_tmps (show slotOf act 2 = i64 1 from hF.slot 2 (by kernel_rfl))
          refine rgw_val (wanted_none rfl) (i64 1) (by simp [go_sem, e2]) (BR.refl _) ?_
          exact congrArg (fun v => [v]) (slotOf_same act 23 _ (by omega))
        | 2, ho, hD =>
          cases ho
          have e6 := slot_tmps (show slotOf act 6 = .pointer (some ⟨w.heap.size + 1, 0, none⟩) from hF.slot 6 (by kernel_rfl))
          refine rgw_val (wanted_none rfl) (.pointer (some ⟨w.heap.size + 1, 1, none⟩)) (by simp [go_sem, e6]) (BR.refl _) ?_
          exact congrArg (fun v => [v]) (slotOf_same act 24 _ (by omega))
        | 3, ho, hD =>
          cases ho
          have e23 := slot_tmps (List.cons.inj (hD 1 (by decide))).1
          have e24 := slot_tmps (List.cons.inj (hD 2 (by decide))).1
          refine rgw_val (wanted_none rfl) (.pointer (some ⟨w.heap.size + 1, 2, none⟩)) (by simp [go_sem, e23, e24]) (BR.refl _) ?_
          exact congrArg (fun v => [v]) (slotOf_same act 25 _ (by omega))
        | 4, ho, hD =>
          cases ho
          have e25 := slot_tmps (List.cons.inj (hD 3 (by decide))).1
          have hkA := (Below.block hR _ hkBl).trans hkB
          have hkc := cells_of hkA
          refine rgw_val (wanted_none rfl) (i64 fl1) (by simp [go_sem, e25, hkc]) (BR.refl _) ?_
          exact congrArg (fun v => [v]) (slotOf_same act 26 _ (by omega))
        | 5, ho, hD =>
          cases ho
          have e6 := slot_tmps (show slotOf act 6 = .pointer (some ⟨w.heap.size + 1, 0, none⟩) from hF.slot 6 (by kernel_rfl))
          refine rgw_val (wanted_none rfl) (.pointer (some ⟨w.heap.size + 1, 3, none⟩)) (by simp [go_sem, e6]) (BR.refl _) ?_
          exact congrArg (fun v => [v]) (slotOf_same act 27 _ (by omega))
        | 6, ho, hD =>
          cases ho
          have e27 := slot_tmps (List.cons.inj (hD 5 (by decide))).1
          have hkA := (Below.block hR _ hkBl).trans hkB
          have hkc := cells_of hkA
          refine rgw_val (wanted_none rfl) (i64 e) (by simp [go_sem, e27, hkc]) (BR.refl _) ?_
          exact congrArg (fun v => [v]) (slotOf_same act 28 _ (by omega))
        | 7, ho, hD =>
          cases ho
          have e26 := slot_tmps (List.cons.inj (hD 4 (by decide))).1
          have e28 := slot_tmps (List.cons.inj (hD 6 (by decide))).1
          refine rgw_val (wanted_none rfl) (i64 (fl1 + e)) (by simp [go_sem, e26, e28, hw1]) (BR.refl _) ?_
          exact congrArg (fun v => [v]) (slotOf_same act 29 _ (by omega))
        | 8, ho, hD =>
          cases ho
          have e5 := slot_tmps (show slotOf act 5 = .pointer (some ⟨w.heap.size, 0, none⟩) from hF.slot 5 (by kernel_rfl))
          refine rgw_val (wanted_none rfl) (.agg (bookCells B ta tc sa sc)) (by exact ex_load_row (a := act) 30 (.tmp 5) rfl w.heap.size (show slotOf act 5 = .pointer (some ⟨w.heap.size, 0, none⟩) from hF.slot 5 (by kernel_rfl)) 30 _ (0, 0) _ ((Below.block hR _ hxBl).trans hxB) Tryd.underlying30 rfl (by rw [size30]; rfl)) (BR.refl _) ?_
          exact congrArg (fun v => [v]) (slotOf_same act 30 _ (by omega))
        | 9, ho, hD =>
          cases ho
          have e4 := slot_tmps (show slotOf act 4 = i64 ld from hF.slot 4 (by kernel_rfl))
          refine rgw_val (wanted_none rfl) (i64 ld) (by simp [go_sem, e4]) (BR.refl _) ?_
          exact congrArg (fun v => [v]) (slotOf_same act 31 _ (by omega))
        | 10, ho, hD =>
          cases ho
          have e30 := slot_tmps (List.cons.inj (hD 8 (by decide))).1
          have e31 := slot_tmps (List.cons.inj (hD 9 (by decide))).1
          refine rgw_call (wanted_none rfl) 78 #[bookVal B ta tc sa sc, i64 ld] (by simp [go_sem, e30, e31]) rfl ?_
          refine (inches_any B ta tc sa sc ld _ b4 b5 l0 l1).mono ?_
          rintro e wB ⟨rfl, hb⟩
          rw [hQ.out]
          exact ⟨_, rfl, hb, congrArg (fun v => [v]) (slotOf_same act 32 _ (by omega))⟩
        | 11, ho, hD =>
          cases ho
          have e29 := slot_tmps (List.cons.inj (hD 7 (by decide))).1
          have e32 := slot_tmps (List.cons.inj (hD 10 (by decide))).1
          refine rgw_val (wanted_none rfl) (i64 (fl1 + e + Q)) (by simp [go_sem, e29, e32, hw2]) (BR.refl _) ?_
          exact congrArg (fun v => [v]) (slotOf_same act 33 _ (by omega))
        | 12, ho, hD =>
          cases ho
          have e5 := slot_tmps (show slotOf act 5 = .pointer (some ⟨w.heap.size, 0, none⟩) from hF.slot 5 (by kernel_rfl))
          refine rgw_val (wanted_none rfl) (.pointer (some ⟨w.heap.size, 12, none⟩)) (by simp [go_sem, e5]) (BR.refl _) ?_
          exact congrArg (fun v => [v]) (slotOf_same act 34 _ (by omega))
        | 13, ho, hD =>
          cases ho
          have e34 := slot_tmps (List.cons.inj (hD 12 (by decide))).1
          have hxA := (Below.block hR _ hxBl).trans hxB
          have hxc := cells_of hxA
          refine rgw_val (wanted_none rfl) (i64 B.under) (by simp [go_sem, e34, hxc]) (BR.refl _) ?_
          exact congrArg (fun v => [v]) (slotOf_same act 35 _ (by omega))
        | 14, ho, hD =>
          cases ho
          have e33 := slot_tmps (List.cons.inj (hD 11 (by decide))).1
          have e35 := slot_tmps (List.cons.inj (hD 13 (by decide))).1
          refine rgw_val (wanted_none rfl) (i64 (fl1 + e + Q + B.under)) (by simp [go_sem, e33, e35, hw3]) (BR.refl _) ?_
          exact congrArg (fun v => [v]) (slotOf_same act 36 _ (by omega))
        | 15, ho, hD =>
          cases ho
          have e22 := slot_tmps (List.cons.inj (hD 0 (by decide))).1
          have e36 := slot_tmps (List.cons.inj (hD 14 (by decide))).1
          refine rgw_val (wanted_none rfl) (.bool false) (by simp [go_sem, e22, e36, hc]) (BR.refl _) ?_
          exact congrArg (fun v => [v]) (slotOf_same act 37 _ (by omega))
        | 16, ho, hD =>
          cases ho
          have e37 := slot_tmps (List.cons.inj (hD 15 (by decide))).1
          refine rgw_val (wanted_none rfl) (.bool false) (by simp [go_sem, e37]) (BR.refl _) ?_
          exact congrArg (fun v => [v]) (slotOf_same act 38 _ (by omega))
        | 17, ho, hD =>
          cases ho
          have dj : slotOf act 38 = .bool false := (List.cons.inj (hD 16 (by decide))).1
          refine rgw_skip (by rw [wanted_of (d := 38) rfl rfl dj]; rfl) ?_
          trivial
        | 18, ho, hD =>
          cases ho
          have dj : slotOf act 38 = .bool false := (List.cons.inj (hD 16 (by decide))).1
          refine rgw_skip (by rw [wanted_of (d := 38) rfl rfl dj]; rfl) ?_
          trivial
        | 19, ho, hD =>
          cases ho
          have dj : slotOf act 38 = .bool false := (List.cons.inj (hD 16 (by decide))).1
          refine rgw_skip (by rw [wanted_of (d := 38) rfl rfl dj]; rfl) ?_
          trivial
        | 20, ho, hD =>
          cases ho
          have dj : slotOf act 38 = .bool false := (List.cons.inj (hD 16 (by decide))).1
          refine rgw_skip (by rw [wanted_of (d := 38) rfl rfl dj]; rfl) ?_
          trivial
        | 21, ho, hD =>
          cases ho
          have dj : slotOf act 38 = .bool false := (List.cons.inj (hD 16 (by decide))).1
          refine rgw_skip (by rw [wanted_of (d := 38) rfl rfl dj]; rfl) ?_
          trivial
        | 22, ho, hD =>
          cases ho
          have dj : slotOf act 38 = .bool false := (List.cons.inj (hD 16 (by decide))).1
          refine rgw_skip (by rw [wanted_of (d := 38) rfl rfl dj]; rfl) ?_
          trivial
        | 23, ho, hD =>
          cases ho
          have e38 := slot_tmps (List.cons.inj (hD 16 (by decide))).1
          refine rgw_val (wanted_none rfl) (.bool false) (by simp [go_sem, e38]) (BR.refl _) ?_
          exact congrArg (fun v => [v]) (slotOf_same act 45 _ (by omega))
        | 24, ho, hD =>
          cases ho
          have e45 := slot_tmps (List.cons.inj (hD 23 (by decide))).1
          refine rgw_val (wanted_none rfl) (.bool false) (by simp [go_sem, e45]) (BR.refl _) ?_
          exact congrArg (fun v => [v]) (slotOf_same act 10 _ (by omega))
        | _ + 25, ho, _ => cases ho
      · intro act wA hR hF hA
        have f0 : slotOf act 0 = .agg (bookCells B ta tc sa sc) := hF.slot 0 (by kernel_rfl)
        have f2 : slotOf act 2 = i64 1 := hF.slot 2 (by kernel_rfl)
        have f3 : slotOf act 3 = i64 hr := hF.slot 3 (by kernel_rfl)
        have f4 : slotOf act 4 = i64 ld := hF.slot 4 (by kernel_rfl)
        have f5 : slotOf act 5 = .pointer (some ⟨w.heap.size, 0, none⟩) := hF.slot 5 (by kernel_rfl)
        have f6 : slotOf act 6 = .pointer (some ⟨w.heap.size + 1, 0, none⟩) := hF.slot 6 (by kernel_rfl)
        have f11 : slotOf act 11 = i64 hh := hF.slot 11 (by kernel_rfl)
        have f12 : slotOf act 12 = .pointer (some ⟨g, 0, none⟩) := hF.slot 12 (by kernel_rfl)
        have f10 : slotOf act 10 = .bool false := (List.cons.inj (hA 24 (by decide))).1
        have f22 : slotOf act 22 = i64 hh := (List.cons.inj (hA 0 (by decide))).1
        have f23 : slotOf act 23 = i64 1 := (List.cons.inj (hA 1 (by decide))).1
        have f24 : slotOf act 24 = .pointer (some ⟨w.heap.size + 1, 1, none⟩) := (List.cons.inj (hA 2 (by decide))).1
        have f25 : slotOf act 25 = .pointer (some ⟨w.heap.size + 1, 2, none⟩) := (List.cons.inj (hA 3 (by decide))).1
        have f26 : slotOf act 26 = i64 fl1 := (List.cons.inj (hA 4 (by decide))).1
        have f27 : slotOf act 27 = .pointer (some ⟨w.heap.size + 1, 3, none⟩) := (List.cons.inj (hA 5 (by decide))).1
        have f28 : slotOf act 28 = i64 e := (List.cons.inj (hA 6 (by decide))).1
        have f29 : slotOf act 29 = i64 (fl1 + e) := (List.cons.inj (hA 7 (by decide))).1
        have f30 : slotOf act 30 = .agg (bookCells B ta tc sa sc) := (List.cons.inj (hA 8 (by decide))).1
        have f31 : slotOf act 31 = i64 ld := (List.cons.inj (hA 9 (by decide))).1
        have f32 : slotOf act 32 = i64 Q := (List.cons.inj (hA 10 (by decide))).1
        have f33 : slotOf act 33 = i64 (fl1 + e + Q) := (List.cons.inj (hA 11 (by decide))).1
        have f34 : slotOf act 34 = .pointer (some ⟨w.heap.size, 12, none⟩) := (List.cons.inj (hA 12 (by decide))).1
        have f35 : slotOf act 35 = i64 B.under := (List.cons.inj (hA 13 (by decide))).1
        have f36 : slotOf act 36 = i64 (fl1 + e + Q + B.under) := (List.cons.inj (hA 14 (by decide))).1
        have f37 : slotOf act 37 = .bool false := (List.cons.inj (hA 15 (by decide))).1
        have f38 : slotOf act 38 = .bool false := (List.cons.inj (hA 16 (by decide))).1
        have f45 : slotOf act 45 = .bool false := (List.cons.inj (hA 23 (by decide))).1
        rw [act_eta act 46 hF.size hF.defers]
        simp only [show List.range 46 = [0, 1, 2, 3, 4, 5, 6, 7, 8, 9, 10, 11, 12, 13, 14, 15, 16, 17, 18, 19, 20, 21, 22, 23, 24, 25, 26, 27, 28, 29, 30, 31, 32, 33, 34, 35, 36, 37, 38, 39, 40, 41, 42, 43, 44, 45] from rfl, List.map_cons, List.map_nil, f0, f2, f3, f4, f5, f6, f11, f12, f10, f22, f23, f24, f25, f26, f27, f28, f29, f30, f31, f32, f33, f34, f35, f36, f37, f38, f45]
        clear hA hF f0 f2 f3 f4 f5 f6 f11 f12 f10 f22 f23 f24 f25 f26 f27 f28 f29 f30 f31 f32 f33 f34 f35 f36 f37 f38 f45
        go_wp2_with fail
        go_ret
        exact ⟨by rw [(hf hc).out]; rfl, hbB.trans (Below.mono hR hbB.size)⟩
    · go_wp2_with fail
      refine rg_region rdAf2s1t pureAf2s1t (gAf2s1t w B ta tc sa sc g hh fl1 e ld Q) BR (by kernel_rfl) (by kernel_rfl) (fun n => BR.drawn _ n) BR.refl (fun _ _ _ => BR.trans) ?_ ?_ ?_
      · intro i hi vs wA wB hG hR
        match i, hi, hG with
        | 0, _, hG => exact hG
        | 1, _, hG => exact hG
        | 2, _, hG => exact hG
        | 3, _, hG => exact hG
        | 4, _, hG => exact hG
        | 5, _, hG => exact hG
        | 6, _, hG => exact hG
        | 7, _, hG => exact hG
        | 8, _, hG => exact hG
        | 9, _, hG => exact hG
        | 10, _, hG => exact hG
        | 11, _, hG => exact hG
        | 12, _, hG => exact hG
        | 13, _, hG => exact hG
        | 14, _, hG => exact hG
        | 15, _, hG => exact hG
        | 16, _, hG => exact hG
        | 17, _, hG => exact hG
        | 18, _, hG => exact hG
        | 19, _, hG => exact hG
        | 20, _, hG => exact hG
        | 21, _, hG => exact hG
        | 22, _, hG => exact hG
        | 23, _, hG => exact hG
        | 24, _, hG => exact hG
        | _ + 25, _, _ => trivial
      · intro i op ho act wA hR hF hD
        have sz : act.tmps.size = 46 := hF.size
        match i, ho, hD with
        | 0, ho, hD =>
          cases ho
          have e11 := slot_tmps (show slotOf act 11 = i64 hh from hF.slot 11 (by kernel_rfl))
          refine rgw_val (wanted_none rfl) (i64 hh) (by simp [go_sem, e11]) (BR.refl _) ?_
          exact congrArg (fun v => [v]) (slotOf_same act 22 _ (by omega))
        | 1, ho, hD =>
          cases ho
          have e2 := slot_tmps (show slotOf act 2 = i64 1 from hF.slot 2 (by kernel_rfl))
          refine rgw_val (wanted_none rfl) (i64 1) (by simp [go_sem, e2]) (BR.refl _) ?_
          exact congrArg (fun v => [v]) (slotOf_same act 23 _ (by omega))
        | 2, ho, hD =>
          cases ho
          have e6 := slot_tmps (show slotOf act 6 = .pointer (some ⟨w.heap.size + 1, 0, none⟩) from hF.slot 6 (by kernel_rfl))
          refine rgw_val (wanted_none rfl) (.pointer (some ⟨w.heap.size + 1, 1, none⟩)) (by simp [go_sem, e6]) (BR.refl _) ?_
          exact congrArg (fun v => [v]) (slotOf_same act 24 _ (by omega))
        | 3, ho, hD =>
          cases ho
          have e23 := slot_tmps (List.cons.inj (hD 1 (by decide))).1
          have e24 := slot_tmps (List.cons.inj (hD 2 (by decide))).1
          refine rgw_val (wanted_none rfl) (.pointer (some ⟨w.heap.size + 1, 2, none⟩)) (by simp [go_sem, e23, e24]) (BR.refl _) ?_
          exact congrArg (fun v => [v]) (slotOf_same act 25 _ (by omega))
        | 4, ho, hD =>
          cases ho
          have e25 := slot_tmps (List.cons.inj (hD 3 (by decide))).1
          have hkA := (Below.block hR _ hkBl).trans hkB
          have hkc := cells_of hkA
          refine rgw_val (wanted_none rfl) (i64 fl1) (by simp [go_sem, e25, hkc]) (BR.refl _) ?_
          exact congrArg (fun v => [v]) (slotOf_same act 26 _ (by omega))
        | 5, ho, hD =>
          cases ho
          have e6 := slot_tmps (show slotOf act 6 = .pointer (some ⟨w.heap.size + 1, 0, none⟩) from hF.slot 6 (by kernel_rfl))
          refine rgw_val (wanted_none rfl) (.pointer (some ⟨w.heap.size + 1, 3, none⟩)) (by simp [go_sem, e6]) (BR.refl _) ?_
          exact congrArg (fun v => [v]) (slotOf_same act 27 _ (by omega))
        | 6, ho, hD =>
          cases ho
          have e27 := slot_tmps (List.cons.inj (hD 5 (by decide))).1
          have hkA := (Below.block hR _ hkBl).trans hkB
          have hkc := cells_of hkA
          refine rgw_val (wanted_none rfl) (i64 e) (by simp [go_sem, e27, hkc]) (BR.refl _) ?_
          exact congrArg (fun v => [v]) (slotOf_same act 28 _ (by omega))
        | 7, ho, hD =>
          cases ho
          have e26 := slot_tmps (List.cons.inj (hD 4 (by decide))).1
          have e28 := slot_tmps (List.cons.inj (hD 6 (by decide))).1
          refine rgw_val (wanted_none rfl) (i64 (fl1 + e)) (by simp [go_sem, e26, e28, hw1]) (BR.refl _) ?_
          exact congrArg (fun v => [v]) (slotOf_same act 29 _ (by omega))
        | 8, ho, hD =>
          cases ho
          have e5 := slot_tmps (show slotOf act 5 = .pointer (some ⟨w.heap.size, 0, none⟩) from hF.slot 5 (by kernel_rfl))
          refine rgw_val (wanted_none rfl) (.agg (bookCells B ta tc sa sc)) (by exact ex_load_row (a := act) 30 (.tmp 5) rfl w.heap.size (show slotOf act 5 = .pointer (some ⟨w.heap.size, 0, none⟩) from hF.slot 5 (by kernel_rfl)) 30 _ (0, 0) _ ((Below.block hR _ hxBl).trans hxB) Tryd.underlying30 rfl (by rw [size30]; rfl)) (BR.refl _) ?_
          exact congrArg (fun v => [v]) (slotOf_same act 30 _ (by omega))
        | 9, ho, hD =>
          cases ho
          have e4 := slot_tmps (show slotOf act 4 = i64 ld from hF.slot 4 (by kernel_rfl))
          refine rgw_val (wanted_none rfl) (i64 ld) (by simp [go_sem, e4]) (BR.refl _) ?_
          exact congrArg (fun v => [v]) (slotOf_same act 31 _ (by omega))
        | 10, ho, hD =>
          cases ho
          have e30 := slot_tmps (List.cons.inj (hD 8 (by decide))).1
          have e31 := slot_tmps (List.cons.inj (hD 9 (by decide))).1
          refine rgw_call (wanted_none rfl) 78 #[bookVal B ta tc sa sc, i64 ld] (by simp [go_sem, e30, e31]) rfl ?_
          refine (inches_any B ta tc sa sc ld _ b4 b5 l0 l1).mono ?_
          rintro e wB ⟨rfl, hb⟩
          rw [hQ.out]
          exact ⟨_, rfl, hb, congrArg (fun v => [v]) (slotOf_same act 32 _ (by omega))⟩
        | 11, ho, hD =>
          cases ho
          have e29 := slot_tmps (List.cons.inj (hD 7 (by decide))).1
          have e32 := slot_tmps (List.cons.inj (hD 10 (by decide))).1
          refine rgw_val (wanted_none rfl) (i64 (fl1 + e + Q)) (by simp [go_sem, e29, e32, hw2]) (BR.refl _) ?_
          exact congrArg (fun v => [v]) (slotOf_same act 33 _ (by omega))
        | 12, ho, hD =>
          cases ho
          have e5 := slot_tmps (show slotOf act 5 = .pointer (some ⟨w.heap.size, 0, none⟩) from hF.slot 5 (by kernel_rfl))
          refine rgw_val (wanted_none rfl) (.pointer (some ⟨w.heap.size, 12, none⟩)) (by simp [go_sem, e5]) (BR.refl _) ?_
          exact congrArg (fun v => [v]) (slotOf_same act 34 _ (by omega))
        | 13, ho, hD =>
          cases ho
          have e34 := slot_tmps (List.cons.inj (hD 12 (by decide))).1
          have hxA := (Below.block hR _ hxBl).trans hxB
          have hxc := cells_of hxA
          refine rgw_val (wanted_none rfl) (i64 B.under) (by simp [go_sem, e34, hxc]) (BR.refl _) ?_
          exact congrArg (fun v => [v]) (slotOf_same act 35 _ (by omega))
        | 14, ho, hD =>
          cases ho
          have e33 := slot_tmps (List.cons.inj (hD 11 (by decide))).1
          have e35 := slot_tmps (List.cons.inj (hD 13 (by decide))).1
          refine rgw_val (wanted_none rfl) (i64 (fl1 + e + Q + B.under)) (by simp [go_sem, e33, e35, hw3]) (BR.refl _) ?_
          exact congrArg (fun v => [v]) (slotOf_same act 36 _ (by omega))
        | 15, ho, hD =>
          cases ho
          have e22 := slot_tmps (List.cons.inj (hD 0 (by decide))).1
          have e36 := slot_tmps (List.cons.inj (hD 14 (by decide))).1
          refine rgw_val (wanted_none rfl) (.bool true) (by simp [go_sem, e22, e36, hc]) (BR.refl _) ?_
          exact congrArg (fun v => [v]) (slotOf_same act 37 _ (by omega))
        | 16, ho, hD =>
          cases ho
          have e37 := slot_tmps (List.cons.inj (hD 15 (by decide))).1
          refine rgw_val (wanted_none rfl) (.bool true) (by simp [go_sem, e37]) (BR.refl _) ?_
          exact congrArg (fun v => [v]) (slotOf_same act 38 _ (by omega))
        | 17, ho, hD =>
          cases ho
          have dj : slotOf act 38 = .bool true := (List.cons.inj (hD 16 (by decide))).1
          have e11 := slot_tmps (show slotOf act 11 = i64 hh from hF.slot 11 (by kernel_rfl))
          refine rgw_val (by rw [wanted_of (d := 38) rfl rfl dj]; rfl) (i64 hh) (by simp [go_sem, e11]) (BR.refl _) ?_
          exact congrArg (fun v => [v]) (slotOf_same act 39 _ (by omega))
        | 18, ho, hD =>
          cases ho
          have dj : slotOf act 38 = .bool true := (List.cons.inj (hD 16 (by decide))).1
          have e12 := slot_tmps (show slotOf act 12 = .pointer (some ⟨g, 0, none⟩) from hF.slot 12 (by kernel_rfl))
          refine rgw_val (by rw [wanted_of (d := 38) rfl rfl dj]; rfl) (.pointer (some ⟨g, 2, none⟩)) (by simp [go_sem, e12]) (BR.refl _) ?_
          exact congrArg (fun v => [v]) (slotOf_same act 40 _ (by omega))
        | 19, ho, hD =>
          cases ho
          have dj : slotOf act 38 = .bool true := (List.cons.inj (hD 16 (by decide))).1
          have e40 := slot_tmps (List.cons.inj (hD 18 (by decide))).1
          have hgA := (Below.block hR _ hgBl).trans hgB
          have hgc := cells_of hgA
          refine rgw_val (by rw [wanted_of (d := 38) rfl rfl dj]; rfl) (i64 B.s1.lo) (by simp [go_sem, e40, hgc]) (BR.refl _) ?_
          exact congrArg (fun v => [v]) (slotOf_same act 41 _ (by omega))
        | 20, ho, hD =>
          cases ho
          have dj : slotOf act 38 = .bool true := (List.cons.inj (hD 16 (by decide))).1
          have e12 := slot_tmps (show slotOf act 12 = .pointer (some ⟨g, 0, none⟩) from hF.slot 12 (by kernel_rfl))
          refine rgw_val (by rw [wanted_of (d := 38) rfl rfl dj]; rfl) (.pointer (some ⟨g, 3, none⟩)) (by simp [go_sem, e12]) (BR.refl _) ?_
          exact congrArg (fun v => [v]) (slotOf_same act 42 _ (by omega))
        | 21, ho, hD =>
          cases ho
          have dj : slotOf act 38 = .bool true := (List.cons.inj (hD 16 (by decide))).1
          have e42 := slot_tmps (List.cons.inj (hD 20 (by decide))).1
          have hgA := (Below.block hR _ hgBl).trans hgB
          have hgc := cells_of hgA
          refine rgw_val (by rw [wanted_of (d := 38) rfl rfl dj]; rfl) (i64 B.s1.hi) (by simp [go_sem, e42, hgc]) (BR.refl _) ?_
          exact congrArg (fun v => [v]) (slotOf_same act 43 _ (by omega))
        | 22, ho, hD =>
          cases ho
          have dj : slotOf act 38 = .bool true := (List.cons.inj (hD 16 (by decide))).1
          have e39 := slot_tmps (List.cons.inj (hD 17 (by decide))).1
          have e41 := slot_tmps (List.cons.inj (hD 19 (by decide))).1
          have e43 := slot_tmps (List.cons.inj (hD 21 (by decide))).1
          refine rgw_call (by rw [wanted_of (d := 38) rfl rfl dj]; rfl) 31 #[i64 hh, i64 B.s1.lo, i64 B.s1.hi] (by simp [go_sem, e39, e41, e43]) rfl ?_
          refine (inside_any _ _ _ _).mono ?_
          rintro e wB ⟨rfl, rfl⟩
          exact ⟨_, rfl, BR.refl _, congrArg (fun v => [v]) (slotOf_same act 44 _ (by omega))⟩
        | 23, ho, hD =>
          cases ho
          have e38 := slot_tmps (List.cons.inj (hD 16 (by decide))).1
          have e44 := slot_tmps (List.cons.inj (hD 22 (by decide))).1
          refine rgw_val (wanted_none rfl) (.bool (inB hh B.s1.lo B.s1.hi)) (by simp [go_sem, e38, e44]) (BR.refl _) ?_
          exact congrArg (fun v => [v]) (slotOf_same act 45 _ (by omega))
        | 24, ho, hD =>
          cases ho
          have e45 := slot_tmps (List.cons.inj (hD 23 (by decide))).1
          refine rgw_val (wanted_none rfl) (.bool (inB hh B.s1.lo B.s1.hi)) (by simp [go_sem, e45]) (BR.refl _) ?_
          exact congrArg (fun v => [v]) (slotOf_same act 10 _ (by omega))
        | _ + 25, ho, _ => cases ho
      · intro act wA hR hF hA
        have f0 : slotOf act 0 = .agg (bookCells B ta tc sa sc) := hF.slot 0 (by kernel_rfl)
        have f2 : slotOf act 2 = i64 1 := hF.slot 2 (by kernel_rfl)
        have f3 : slotOf act 3 = i64 hr := hF.slot 3 (by kernel_rfl)
        have f4 : slotOf act 4 = i64 ld := hF.slot 4 (by kernel_rfl)
        have f5 : slotOf act 5 = .pointer (some ⟨w.heap.size, 0, none⟩) := hF.slot 5 (by kernel_rfl)
        have f6 : slotOf act 6 = .pointer (some ⟨w.heap.size + 1, 0, none⟩) := hF.slot 6 (by kernel_rfl)
        have f11 : slotOf act 11 = i64 hh := hF.slot 11 (by kernel_rfl)
        have f12 : slotOf act 12 = .pointer (some ⟨g, 0, none⟩) := hF.slot 12 (by kernel_rfl)
        have f10 : slotOf act 10 = .bool (inB hh B.s1.lo B.s1.hi) := (List.cons.inj (hA 24 (by decide))).1
        have f22 : slotOf act 22 = i64 hh := (List.cons.inj (hA 0 (by decide))).1
        have f23 : slotOf act 23 = i64 1 := (List.cons.inj (hA 1 (by decide))).1
        have f24 : slotOf act 24 = .pointer (some ⟨w.heap.size + 1, 1, none⟩) := (List.cons.inj (hA 2 (by decide))).1
        have f25 : slotOf act 25 = .pointer (some ⟨w.heap.size + 1, 2, none⟩) := (List.cons.inj (hA 3 (by decide))).1
        have f26 : slotOf act 26 = i64 fl1 := (List.cons.inj (hA 4 (by decide))).1
        have f27 : slotOf act 27 = .pointer (some ⟨w.heap.size + 1, 3, none⟩) := (List.cons.inj (hA 5 (by decide))).1
        have f28 : slotOf act 28 = i64 e := (List.cons.inj (hA 6 (by decide))).1
        have f29 : slotOf act 29 = i64 (fl1 + e) := (List.cons.inj (hA 7 (by decide))).1
        have f30 : slotOf act 30 = .agg (bookCells B ta tc sa sc) := (List.cons.inj (hA 8 (by decide))).1
        have f31 : slotOf act 31 = i64 ld := (List.cons.inj (hA 9 (by decide))).1
        have f32 : slotOf act 32 = i64 Q := (List.cons.inj (hA 10 (by decide))).1
        have f33 : slotOf act 33 = i64 (fl1 + e + Q) := (List.cons.inj (hA 11 (by decide))).1
        have f34 : slotOf act 34 = .pointer (some ⟨w.heap.size, 12, none⟩) := (List.cons.inj (hA 12 (by decide))).1
        have f35 : slotOf act 35 = i64 B.under := (List.cons.inj (hA 13 (by decide))).1
        have f36 : slotOf act 36 = i64 (fl1 + e + Q + B.under) := (List.cons.inj (hA 14 (by decide))).1
        have f37 : slotOf act 37 = .bool true := (List.cons.inj (hA 15 (by decide))).1
        have f38 : slotOf act 38 = .bool true := (List.cons.inj (hA 16 (by decide))).1
        have f39 : slotOf act 39 = i64 hh := (List.cons.inj (hA 17 (by decide))).1
        have f40 : slotOf act 40 = .pointer (some ⟨g, 2, none⟩) := (List.cons.inj (hA 18 (by decide))).1
        have f41 : slotOf act 41 = i64 B.s1.lo := (List.cons.inj (hA 19 (by decide))).1
        have f42 : slotOf act 42 = .pointer (some ⟨g, 3, none⟩) := (List.cons.inj (hA 20 (by decide))).1
        have f43 : slotOf act 43 = i64 B.s1.hi := (List.cons.inj (hA 21 (by decide))).1
        have f44 : slotOf act 44 = .bool (inB hh B.s1.lo B.s1.hi) := (List.cons.inj (hA 22 (by decide))).1
        have f45 : slotOf act 45 = .bool (inB hh B.s1.lo B.s1.hi) := (List.cons.inj (hA 23 (by decide))).1
        rw [act_eta act 46 hF.size hF.defers]
        simp only [show List.range 46 = [0, 1, 2, 3, 4, 5, 6, 7, 8, 9, 10, 11, 12, 13, 14, 15, 16, 17, 18, 19, 20, 21, 22, 23, 24, 25, 26, 27, 28, 29, 30, 31, 32, 33, 34, 35, 36, 37, 38, 39, 40, 41, 42, 43, 44, 45] from rfl, List.map_cons, List.map_nil, f0, f2, f3, f4, f5, f6, f11, f12, f10, f22, f23, f24, f25, f26, f27, f28, f29, f30, f31, f32, f33, f34, f35, f36, f37, f38, f39, f40, f41, f42, f43, f44, f45]
        clear hA hF f0 f2 f3 f4 f5 f6 f11 f12 f10 f22 f23 f24 f25 f26 f27 f28 f29 f30 f31 f32 f33 f34 f35 f36 f37 f38 f39 f40 f41 f42 f43 f44 f45
        go_wp2_with fail
        go_ret
        exact ⟨by rw [(ht hc).out]; rfl, hbB.trans (Below.mono hR hbB.size)⟩

end Go.Proofs.YtkbmpkdflgimmaaDoor
