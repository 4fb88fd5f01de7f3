/- Moor2, Sound, Pure3, LMost in one text. (Printed by merge.py.) -/
import Derived.Test.YtkbmpkdflgimmaaDoorS6
/- moored: the chapter's examples are as they are told. -/
namespace Go.Proofs.YtkbmpkdflgimmaaDoor
open Go.RowKit Go.Shelf

theorem fields24 : Tryd.prog.fieldsOf 24 = #[{ name := "Low", type := 3, offset := 0, embedded := false, tag := "", pkgPath := "", byteOffset := 0 }, { name := "High", type := 3, offset := 1, embedded := false, tag := "", pkgPath := "", byteOffset := 8 }] := by kernel_rfl
theorem stood24 : Tryd.prog.stoodInHeld 24 = false := by kernel_rfl
theorem run_eq24In (n : Nat) (a b c d : Int) (w : World) : (Op.equalIn (n + 2) 24 (.agg #[i64 a, i64 b]) (.agg #[i64 c, i64 d])).run Tryd.prog w = .ok (a == c && b == d) w := by
  have h0 := run_equalIn_struct (P := Tryd.prog) w (n + 1) 24 #[i64 a, i64 b] #[i64 c, i64 d] (by rw [fields24]; exact Tryd.underlying24) stood24
  rw [fields24] at h0
  refine h0.trans ?_
  have h1 := run_equalIn_int (P := Tryd.prog) w n 3 .i64 .i64 a c Tryd.underlying3
  have h2 := run_equalIn_int (P := Tryd.prog) w n 3 .i64 .i64 b d Tryd.underlying3
  cases e1 : (a == c) <;> cases e2 : (b == d) <;> simp [Op.eqFields, part3, part3', Sem.run_bind, h1, h2, e1, e2]
theorem run_eq24 (a b c d : Int) (w : World) : (Op.equal 24 (.agg #[i64 a, i64 b]) (.agg #[i64 c, i64 d])).run Tryd.prog w = .ok (a == c && b == d) w := run_eq24In 9998 a b c d w
theorem size24 : (Tryd.prog.info? 24).map (·.size) = some 2 := by kernel_rfl
def MoorPost (w : World) (e : Ending) (w' : World) : Prop := e = .returned (.bool true) ∧ Below w.heap.size w w'
def rdMoA (i : Nat) : List Nat := match i with
  | 0 => [39] | 1 => [40] | 2 => [41] | 3 => [42] | 4 => [43] | 5 => [44] | 6 => [45] | 7 => [46] | 8 => [47] | 9 => [48] | 10 => [49] | 11 => [50] | 12 => [51] | 13 => [52] | 14 => [53] | 15 => [54] | 16 => [55] | 17 => [56] | 18 => [57] | 19 => [58] | 20 => [59] | 21 => [60] | 22 => [61] | 23 => [62] | 24 => [63] | 25 => [64] | 26 => [65] | 27 => [66] | 28 => [67] | 29 => [68] | 30 => [69] | 31 => [70] | 32 => [71] | 33 => [72] | 34 => [73] | 35 => [74] | 36 => [75] | 37 => [76] | 38 => [77] | 39 => [78] | 40 => [79] | _ => []
def pureMoA (i : Nat) : Bool := match i with
  | 20 => false | 37 => false | 38 => false | _ => true
def gMoA (v5b : Value) (i : Nat) (vs : List Value) (W : World) : Prop := match i with
  | 0 => vs = [i64 0]
  | 1 => vs = [.bool false]
  | 2 => vs = [.bool false]
  | 3 => vs = [i64 0]
  | 4 => vs = [.bool false]
  | 5 => vs = [.bool false]
  | 6 => vs = [.bool false]
  | 7 => vs = [i64 0]
  | 8 => vs = [.bool false]
  | 9 => vs = [.bool false]
  | 10 => vs = [.bool false]
  | 11 => vs = [i64 0]
  | 12 => vs = [.bool false]
  | 13 => vs = [.bool false]
  | 14 => vs = [.bool false]
  | 15 => vs = [i64 0]
  | 16 => vs = [.bool false]
  | 17 => vs = [.bool false]
  | 18 => vs = [.bool false]
  | 19 => vs = [.agg #[i64 12, i64 12]]
  | 20 => vs = [.agg #[i64 12, i64 12]]
  | 21 => vs = [.bool false]
  | 22 => vs = [.bool false]
  | 23 => vs = [.bool false]
  | 24 => vs = [i64 2]
  | 25 => vs = [.bool false]
  | 26 => vs = [.bool false]
  | 27 => vs = [.bool false]
  | 28 => vs = [i64 20]
  | 29 => vs = [.bool false]
  | 30 => vs = [.bool false]
  | 31 => vs = [.bool false]
  | 32 => vs = [i64 3]
  | 33 => vs = [.bool false]
  | 34 => vs = [.bool false]
  | 35 => vs = [.bool false]
  | 36 => vs = [v5b]
  | 37 => ∃ g, vs = [.slice (some ⟨g, 0, none⟩) 3 3] ∧ W.heap[g]? = some (.cells #[i64 0, i64 1, i64 3] 3 (0, 0))
  | 38 => vs = [.bool true]
  | 39 => vs = [.bool false]
  | 40 => vs = [.bool false]
  | _ => True
def rdMoB (i : Nat) : List Nat := match i with
  | 0 => [95] | 1 => [96] | 2 => [97] | 3 => [98] | 4 => [99] | 5 => [100] | 6 => [101] | 7 => [102] | 8 => [103] | 9 => [104] | 10 => [105] | 11 => [106] | 12 => [107] | 13 => [108] | 14 => [109] | 15 => [110] | 16 => [111] | 17 => [112] | 18 => [113] | 19 => [114] | 20 => [115] | 21 => [116] | 22 => [117] | 23 => [0] | _ => []
def pureMoB (i : Nat) : Bool := match i with
  | 12 => false | 13 => false | 20 => false | _ => true
def gMoB (v6b : Value) (i : Nat) (vs : List Value) (W : World) : Prop := match i with
  | 0 => vs = [i64 0]
  | 1 => vs = [.bool true]
  | 2 => vs = [.bool true]
  | 3 => vs = [i64 0]
  | 4 => vs = [.bool true]
  | 5 => vs = [.bool true]
  | 6 => vs = [.bool true]
  | 7 => vs = [i64 0]
  | 8 => vs = [.bool true]
  | 9 => vs = [.bool true]
  | 10 => vs = [.bool true]
  | 11 => vs = [v6b]
  | 12 => ∃ g, vs = [.slice (some ⟨g, 0, none⟩) 1 1] ∧ W.heap[g]? = some (.cells #[i64 0] 3 (0, 0))
  | 13 => vs = [.bool true]
  | 14 => vs = [.bool true]
  | 15 => vs = [.bool true]
  | 16 => vs = [.bool true]
  | 17 => vs = [.bool true]
  | 18 => vs = [.bool true]
  | 19 => vs = [.agg #[i64 2, i64 3]]
  | 20 => vs = [.agg #[i64 2, i64 3]]
  | 21 => vs = [.bool true]
  | 22 => vs = [.bool true]
  | 23 => vs = [.bool true]
  | _ => True
set_option maxRecDepth 100000 in
set_option maxHeartbeats 8000000 in
theorem moored_any (w : World) (hG : GA w) : Calls Tryd.prog 18 #[] w (MoorPost w) := by
  have ha0 := Below.refl w.heap.size w
  go_enter Tryd.func18, Tryd.ntmps18
  go_wp2_with fail
  refine (sounded_any _).mono ?_
  rintro e w1a ⟨v1, rfl, hb1a, hB1⟩
  have ha1a := ha0.trans (hb1a.mono ha0.size)
  have hG1a := hG.below ha1a
  go_wp2_with fail
  refine (height_v hG1a hB1 0).mono ?_
  rintro e w1 ⟨rfl, hb1⟩
  have ha1 := ha1a.trans (hb1.mono ha1a.size)
  rw [moor1]
  have hbx : (w1.alloc (.cells #[i64 12, i64 12] 24)).heap[w1.heap.size]? = some (.cells #[i64 12, i64 12] 24 (0, 0)) := heap_alloc_new _ _
  have hax : Below w.heap.size w (w1.alloc (.cells #[i64 12, i64 12] 24)) := ha1.alloc ha1.size _
  go_wp2_with fail
  refine (own_any _).mono ?_
  rintro e w2a ⟨v2, rfl, hb2a, hB2⟩
  have ha2a := hax.trans (hb2a.mono hax.size)
  have hG2a := hG.below ha2a
  go_wp2_with fail
  refine (lands_v hG2a hB2 0 1 20).mono ?_
  rintro e w2 ⟨rfl, hb2⟩
  have ha2 := ha2a.trans (hb2.mono ha2a.size)
  rw [moor2]
  have hx2a := (hb2a.block _ (Array.getElem?_eq_some_iff.1 hbx).1).trans hbx
  have hx2 := (hb2.block _ (Array.getElem?_eq_some_iff.1 hx2a).1).trans hx2a
  go_wp2_with fail
  refine (own_any _).mono ?_
  rintro e w3a ⟨v3, rfl, hb3a, hB3⟩
  have ha3a := ha2.trans (hb3a.mono ha2.size)
  have hG3a := hG.below ha3a
  go_wp2_with fail
  refine (most_v hG3a hB3 1 1).mono ?_
  rintro e w3 ⟨rfl, hb3⟩
  have ha3 := ha3a.trans (hb3.mono ha3a.size)
  rw [moor3]
  have hx3a := (hb3a.block _ (Array.getElem?_eq_some_iff.1 hx2).1).trans hx2
  have hx3 := (hb3.block _ (Array.getElem?_eq_some_iff.1 hx3a).1).trans hx3a
  go_wp2_with fail
  refine (own_any _).mono ?_
  rintro e w4a ⟨v4, rfl, hb4a, hB4⟩
  have ha4a := ha3.trans (hb4a.mono ha3.size)
  have hG4a := hG.below ha4a
  go_wp2_with fail
  refine (first_v hG4a hB4 0 50).mono ?_
  rintro e w4 ⟨rfl, hb4⟩
  have ha4 := ha4a.trans (hb4.mono ha4a.size)
  rw [moor4]
  have hx4a := (hb4a.block _ (Array.getElem?_eq_some_iff.1 hx3).1).trans hx3
  have hx4 := (hb4.block _ (Array.getElem?_eq_some_iff.1 hx4a).1).trans hx4a
  go_wp2_with fail
  refine (sounded_any _).mono ?_
  rintro e w5a ⟨v5, rfl, hb5a, hB5⟩
  have ha5a := ha4.trans (hb5a.mono ha4.size)
  have hG5a := hG.below ha5a
  go_wp2_with fail
  refine (both_v hG5a hB5 0).mono ?_
  rintro e w5 ⟨v5b, rfl, hb5, hL5⟩
  have ha5 := ha5a.trans (hb5.mono ha5a.size)
  rw [moor5] at hL5 ⊢
  have hx5a := (hb5a.block _ (Array.getElem?_eq_some_iff.1 hx4).1).trans hx4
  have hx5 := (hb5.block _ (Array.getElem?_eq_some_iff.1 hx5a).1).trans hx5a
  clear hbx hax hx2 hx2a hx3 hx3a hx4 hx4a hx5a hb1 hb1a hb2 hb2a hb3 hb3a hb4 hb4a hb5 hb5a ha0 ha1 ha1a ha2 ha2a ha3 ha3a ha4 ha4a ha5a hB1 hB2 hB3 hB4 hB5 hG1a hG2a hG3a hG4a hG5a
  go_wp2_with fail
  refine rg_region rdMoA pureMoA (gMoA v5b) BR (by kernel_rfl) (by kernel_rfl) (fun n => BR.drawn _ n) BR.refl (fun _ _ _ => BR.trans) ?_ ?_ ?_
  · intro i hi vs wA wB hG hR
    match i, hi, hG with
    | 0, _, hG => exact hG
    | 1, _, hG => exact hG
    | 2, _, hG => exact hG
    | 3, _, hG => exact hG
    | 4, _, hG => exact hG
    | 5, _, hG => exact hG
    | 6, _, hG => exact hG
    | 7, _, hG => exact hG
    | 8, _, hG => exact hG
    | 9, _, hG => exact hG
    | 10, _, hG => exact hG
    | 11, _, hG => exact hG
    | 12, _, hG => exact hG
    | 13, _, hG => exact hG
    | 14, _, hG => exact hG
    | 15, _, hG => exact hG
    | 16, _, hG => exact hG
    | 17, _, hG => exact hG
    | 18, _, hG => exact hG
    | 19, _, hG => exact hG
    | 20, _, hG => exact hG
    | 21, _, hG => exact hG
    | 22, _, hG => exact hG
    | 23, _, hG => exact hG
    | 24, _, hG => exact hG
    | 25, _, hG => exact hG
    | 26, _, hG => exact hG
    | 27, _, hG => exact hG
    | 28, _, hG => exact hG
    | 29, _, hG => exact hG
    | 30, _, hG => exact hG
    | 31, _, hG => exact hG
    | 32, _, hG => exact hG
    | 33, _, hG => exact hG
    | 34, _, hG => exact hG
    | 35, _, hG => exact hG
    | 36, _, hG => exact hG
    | 37, _, hG => obtain ⟨g, h1, h2⟩ := hG; exact ⟨g, h1, (hR.block _ (Array.getElem?_eq_some_iff.1 h2).1).trans h2⟩
    | 38, _, hG => exact hG
    | 39, _, hG => exact hG
    | 40, _, hG => exact hG
    | _ + 41, _, _ => trivial
  · intro i op ho act wA hR hF hD
    have sz : act.tmps.size = 118 := hF.size
    match i, ho, hD with
    | 0, ho, hD =>
      cases ho
      have e2 := slot_tmps (show slotOf act 2 = i64 0 from hF.slot 2 (by kernel_rfl))
      refine rgw_val (wanted_none rfl) (i64 0) (by simp [go_sem, e2]) (BR.refl _) ?_
      exact congrArg (fun v => [v]) (slotOf_same act 39 _ (by omega))
    | 1, ho, hD =>
      cases ho
      have e39 := slot_tmps (List.cons.inj (hD 0 (by decide))).1
      refine rgw_val (wanted_none rfl) (.bool false) (by simp [go_sem, e39]) (BR.refl _) ?_
      exact congrArg (fun v => [v]) (slotOf_same act 40 _ (by omega))
    | 2, ho, hD =>
      cases ho
      have e40 := slot_tmps (List.cons.inj (hD 1 (by decide))).1
      refine rgw_val (wanted_none rfl) (.bool false) (by simp [go_sem, e40]) (BR.refl _) ?_
      exact congrArg (fun v => [v]) (slotOf_same act 41 _ (by omega))
    | 3, ho, hD =>
      cases ho
      have dj : slotOf act 41 = .bool false := (List.cons.inj (hD 2 (by decide))).1
      have e4 := slot_tmps (show slotOf act 4 = i64 0 from hF.slot 4 (by kernel_rfl))
      refine rgw_val (by rw [wanted_of (d := 41) rfl rfl dj]; rfl) (i64 0) (by simp [go_sem, e4]) (BR.refl _) ?_
      exact congrArg (fun v => [v]) (slotOf_same act 42 _ (by omega))
    | 4, ho, hD =>
      cases ho
      have dj : slotOf act 41 = .bool false := (List.cons.inj (hD 2 (by decide))).1
      have e42 := slot_tmps (List.cons.inj (hD 3 (by decide))).1
      refine rgw_val (by rw [wanted_of (d := 41) rfl rfl dj]; rfl) (.bool false) (by simp [go_sem, e42]) (BR.refl _) ?_
      exact congrArg (fun v => [v]) (slotOf_same act 43 _ (by omega))
    | 5, ho, hD =>
      cases ho
      have e41 := slot_tmps (List.cons.inj (hD 2 (by decide))).1
      have e43 := slot_tmps (List.cons.inj (hD 4 (by decide))).1
      refine rgw_val (wanted_none rfl) (.bool false) (by simp [go_sem, e41, e43]) (BR.refl _) ?_
      exact congrArg (fun v => [v]) (slotOf_same act 44 _ (by omega))
    | 6, ho, hD =>
      cases ho
      have e44 := slot_tmps (List.cons.inj (hD 5 (by decide))).1
      refine rgw_val (wanted_none rfl) (.bool false) (by simp [go_sem, e44]) (BR.refl _) ?_
      exact congrArg (fun v => [v]) (slotOf_same act 45 _ (by omega))
    | 7, ho, hD =>
      cases ho
      have dj : slotOf act 45 = .bool false := (List.cons.inj (hD 6 (by decide))).1
      have e6 := slot_tmps (show slotOf act 6 = i64 0 from hF.slot 6 (by kernel_rfl))
      refine rgw_val (by rw [wanted_of (d := 45) rfl rfl dj]; rfl) (i64 0) (by simp [go_sem, e6]) (BR.refl _) ?_
      exact congrArg (fun v => [v]) (slotOf_same act 46 _ (by omega))
    | 8, ho, hD =>
      cases ho
      have dj : slotOf act 45 = .bool false := (List.cons.inj (hD 6 (by decide))).1
      have e46 := slot_tmps (List.cons.inj (hD 7 (by decide))).1
      refine rgw_val (by rw [wanted_of (d := 45) rfl rfl dj]; rfl) (.bool false) (by simp [go_sem, e46]) (BR.refl _) ?_
      exact congrArg (fun v => [v]) (slotOf_same act 47 _ (by omega))
    | 9, ho, hD =>
      cases ho
      have e45 := slot_tmps (List.cons.inj (hD 6 (by decide))).1
      have e47 := slot_tmps (List.cons.inj (hD 8 (by decide))).1
      refine rgw_val (wanted_none rfl) (.bool false) (by simp [go_sem, e45, e47]) (BR.refl _) ?_
      exact congrArg (fun v => [v]) (slotOf_same act 48 _ (by omega))
    | 10, ho, hD =>
      cases ho
      have e48 := slot_tmps (List.cons.inj (hD 9 (by decide))).1
      refine rgw_val (wanted_none rfl) (.bool false) (by simp [go_sem, e48]) (BR.refl _) ?_
      exact congrArg (fun v => [v]) (slotOf_same act 49 _ (by omega))
    | 11, ho, hD =>
      cases ho
      have dj : slotOf act 49 = .bool false := (List.cons.inj (hD 10 (by decide))).1
      have e8 := slot_tmps (show slotOf act 8 = i64 0 from hF.slot 8 (by kernel_rfl))
      refine rgw_val (by rw [wanted_of (d := 49) rfl rfl dj]; rfl) (i64 0) (by simp [go_sem, e8]) (BR.refl _) ?_
      exact congrArg (fun v => [v]) (slotOf_same act 50 _ (by omega))
    | 12, ho, hD =>
      cases ho
      have dj : slotOf act 49 = .bool false := (List.cons.inj (hD 10 (by decide))).1
      have e50 := slot_tmps (List.cons.inj (hD 11 (by decide))).1
      refine rgw_val (by rw [wanted_of (d := 49) rfl rfl dj]; rfl) (.bool false) (by simp [go_sem, e50]) (BR.refl _) ?_
      exact congrArg (fun v => [v]) (slotOf_same act 51 _ (by omega))
    | 13, ho, hD =>
      cases ho
      have e49 := slot_tmps (List.cons.inj (hD 10 (by decide))).1
      have e51 := slot_tmps (List.cons.inj (hD 12 (by decide))).1
      refine rgw_val (wanted_none rfl) (.bool false) (by simp [go_sem, e49, e51]) (BR.refl _) ?_
      exact congrArg (fun v => [v]) (slotOf_same act 52 _ (by omega))
    | 14, ho, hD =>
      cases ho
      have e52 := slot_tmps (List.cons.inj (hD 13 (by decide))).1
      refine rgw_val (wanted_none rfl) (.bool false) (by simp [go_sem, e52]) (BR.refl _) ?_
      exact congrArg (fun v => [v]) (slotOf_same act 53 _ (by omega))
    | 15, ho, hD =>
      cases ho
      have dj : slotOf act 53 = .bool false := (List.cons.inj (hD 14 (by decide))).1
      have e10 := slot_tmps (show slotOf act 10 = i64 0 from hF.slot 10 (by kernel_rfl))
      refine rgw_val (by rw [wanted_of (d := 53) rfl rfl dj]; rfl) (i64 0) (by simp [go_sem, e10]) (BR.refl _) ?_
      exact congrArg (fun v => [v]) (slotOf_same act 54 _ (by omega))
    | 16, ho, hD =>
      cases ho
      have dj : slotOf act 53 = .bool false := (List.cons.inj (hD 14 (by decide))).1
      have e54 := slot_tmps (List.cons.inj (hD 15 (by decide))).1
      refine rgw_val (by rw [wanted_of (d := 53) rfl rfl dj]; rfl) (.bool false) (by simp [go_sem, e54]) (BR.refl _) ?_
      exact congrArg (fun v => [v]) (slotOf_same act 55 _ (by omega))
    | 17, ho, hD =>
      cases ho
      have e53 := slot_tmps (List.cons.inj (hD 14 (by decide))).1
      have e55 := slot_tmps (List.cons.inj (hD 16 (by decide))).1
      refine rgw_val (wanted_none rfl) (.bool false) (by simp [go_sem, e53, e55]) (BR.refl _) ?_
      exact congrArg (fun v => [v]) (slotOf_same act 56 _ (by omega))
    | 18, ho, hD =>
      cases ho
      have e56 := slot_tmps (List.cons.inj (hD 17 (by decide))).1
      refine rgw_val (wanted_none rfl) (.bool false) (by simp [go_sem, e56]) (BR.refl _) ?_
      exact congrArg (fun v => [v]) (slotOf_same act 57 _ (by omega))
    | 19, ho, hD =>
      cases ho
      have dj : slotOf act 57 = .bool false := (List.cons.inj (hD 18 (by decide))).1
      have e1 := slot_tmps (show slotOf act 1 = .pointer (some ⟨w1.heap.size, 0, none⟩) from hF.slot 1 (by kernel_rfl))
      have sv : act.eval (.tmp 1) = .pointer (some ⟨w1.heap.size, 0, none⟩) := hF.slot 1 (by kernel_rfl)
      have hxA := (hR.block _ (Array.getElem?_eq_some_iff.1 hx5).1).trans hx5
      refine rgw_val (by rw [wanted_of (d := 57) rfl rfl dj]; rfl) (.agg #[i64 12, i64 12]) (by exact ex_load_row 24 _ rfl _ sv 24 _ (0, 0) _ hxA Tryd.underlying24 rfl (by rw [size24]; rfl)) (BR.refl _) ?_
      exact congrArg (fun v => [v]) (slotOf_same act 58 _ (by omega))
    | 20, ho, hD =>
      cases ho
      have dj : slotOf act 57 = .bool false := (List.cons.inj (hD 18 (by decide))).1
      refine rgw_call (by rw [wanted_of (d := 57) rfl rfl dj]; rfl) 37 #[i64 12] (by simp [go_sem]) rfl ?_
      refine (point_any 12 wA).mono ?_
      rintro e wB ⟨rfl, hb⟩
      exact ⟨_, rfl, hb, congrArg (fun v => [v]) (slotOf_same act 59 _ (by omega))⟩
    | 21, ho, hD =>
      cases ho
      have dj : slotOf act 57 = .bool false := (List.cons.inj (hD 18 (by decide))).1
      have e58 := slot_tmps (List.cons.inj (hD 19 (by decide))).1
      have e59 := slot_tmps (List.cons.inj (hD 20 (by decide))).1
      refine rgw_val (by rw [wanted_of (d := 57) rfl rfl dj]; rfl) (.bool false) (by simp [go_sem, e58, e59]) (BR.refl _) ?_
      exact congrArg (fun v => [v]) (slotOf_same act 60 _ (by omega))
    | 22, ho, hD =>
      cases ho
      have e57 := slot_tmps (List.cons.inj (hD 18 (by decide))).1
      have e60 := slot_tmps (List.cons.inj (hD 21 (by decide))).1
      refine rgw_val (wanted_none rfl) (.bool false) (by simp [go_sem, e57, e60]) (BR.refl _) ?_
      exact congrArg (fun v => [v]) (slotOf_same act 61 _ (by omega))
    | 23, ho, hD =>
      cases ho
      have e61 := slot_tmps (List.cons.inj (hD 22 (by decide))).1
      refine rgw_val (wanted_none rfl) (.bool false) (by simp [go_sem, e61]) (BR.refl _) ?_
      exact congrArg (fun v => [v]) (slotOf_same act 62 _ (by omega))
    | 24, ho, hD =>
      cases ho
      have dj : slotOf act 62 = .bool false := (List.cons.inj (hD 23 (by decide))).1
      have e3 := slot_tmps (show slotOf act 3 = i64 2 from hF.slot 3 (by kernel_rfl))
      refine rgw_val (by rw [wanted_of (d := 62) rfl rfl dj]; rfl) (i64 2) (by simp [go_sem, e3]) (BR.refl _) ?_
      exact congrArg (fun v => [v]) (slotOf_same act 63 _ (by omega))
    | 25, ho, hD =>
      cases ho
      have dj : slotOf act 62 = .bool false := (List.cons.inj (hD 23 (by decide))).1
      have e63 := slot_tmps (List.cons.inj (hD 24 (by decide))).1
      refine rgw_val (by rw [wanted_of (d := 62) rfl rfl dj]; rfl) (.bool false) (by simp [go_sem, e63]) (BR.refl _) ?_
      exact congrArg (fun v => [v]) (slotOf_same act 64 _ (by omega))
    | 26, ho, hD =>
      cases ho
      have e62 := slot_tmps (List.cons.inj (hD 23 (by decide))).1
      have e64 := slot_tmps (List.cons.inj (hD 25 (by decide))).1
      refine rgw_val (wanted_none rfl) (.bool false) (by simp [go_sem, e62, e64]) (BR.refl _) ?_
      exact congrArg (fun v => [v]) (slotOf_same act 65 _ (by omega))
    | 27, ho, hD =>
      cases ho
      have e65 := slot_tmps (List.cons.inj (hD 26 (by decide))).1
      refine rgw_val (wanted_none rfl) (.bool false) (by simp [go_sem, e65]) (BR.refl _) ?_
      exact congrArg (fun v => [v]) (slotOf_same act 66 _ (by omega))
    | 28, ho, hD =>
      cases ho
      have dj : slotOf act 66 = .bool false := (List.cons.inj (hD 27 (by decide))).1
      have e5 := slot_tmps (show slotOf act 5 = i64 20 from hF.slot 5 (by kernel_rfl))
      refine rgw_val (by rw [wanted_of (d := 66) rfl rfl dj]; rfl) (i64 20) (by simp [go_sem, e5]) (BR.refl _) ?_
      exact congrArg (fun v => [v]) (slotOf_same act 67 _ (by omega))
    | 29, ho, hD =>
      cases ho
      have dj : slotOf act 66 = .bool false := (List.cons.inj (hD 27 (by decide))).1
      have e67 := slot_tmps (List.cons.inj (hD 28 (by decide))).1
      refine rgw_val (by rw [wanted_of (d := 66) rfl rfl dj]; rfl) (.bool false) (by simp [go_sem, e67]) (BR.refl _) ?_
      exact congrArg (fun v => [v]) (slotOf_same act 68 _ (by omega))
    | 30, ho, hD =>
      cases ho
      have e66 := slot_tmps (List.cons.inj (hD 27 (by decide))).1
      have e68 := slot_tmps (List.cons.inj (hD 29 (by decide))).1
      refine rgw_val (wanted_none rfl) (.bool false) (by simp [go_sem, e66, e68]) (BR.refl _) ?_
      exact congrArg (fun v => [v]) (slotOf_same act 69 _ (by omega))
    | 31, ho, hD =>
      cases ho
      have e69 := slot_tmps (List.cons.inj (hD 30 (by decide))).1
      refine rgw_val (wanted_none rfl) (.bool false) (by simp [go_sem, e69]) (BR.refl _) ?_
      exact congrArg (fun v => [v]) (slotOf_same act 70 _ (by omega))
    | 32, ho, hD =>
      cases ho
      have dj : slotOf act 70 = .bool false := (List.cons.inj (hD 31 (by decide))).1
      have e7 := slot_tmps (show slotOf act 7 = i64 3 from hF.slot 7 (by kernel_rfl))
      refine rgw_val (by rw [wanted_of (d := 70) rfl rfl dj]; rfl) (i64 3) (by simp [go_sem, e7]) (BR.refl _) ?_
      exact congrArg (fun v => [v]) (slotOf_same act 71 _ (by omega))
    | 33, ho, hD =>
      cases ho
      have dj : slotOf act 70 = .bool false := (List.cons.inj (hD 31 (by decide))).1
      have e71 := slot_tmps (List.cons.inj (hD 32 (by decide))).1
      refine rgw_val (by rw [wanted_of (d := 70) rfl rfl dj]; rfl) (.bool false) (by simp [go_sem, e71]) (BR.refl _) ?_
      exact congrArg (fun v => [v]) (slotOf_same act 72 _ (by omega))
    | 34, ho, hD =>
      cases ho
      have e70 := slot_tmps (List.cons.inj (hD 31 (by decide))).1
      have e72 := slot_tmps (List.cons.inj (hD 33 (by decide))).1
      refine rgw_val (wanted_none rfl) (.bool false) (by simp [go_sem, e70, e72]) (BR.refl _) ?_
      exact congrArg (fun v => [v]) (slotOf_same act 73 _ (by omega))
    | 35, ho, hD =>
      cases ho
      have e73 := slot_tmps (List.cons.inj (hD 34 (by decide))).1
      refine rgw_val (wanted_none rfl) (.bool false) (by simp [go_sem, e73]) (BR.refl _) ?_
      exact congrArg (fun v => [v]) (slotOf_same act 74 _ (by omega))
    | 36, ho, hD =>
      cases ho
      have dj : slotOf act 74 = .bool false := (List.cons.inj (hD 35 (by decide))).1
      have e9 := slot_tmps (show slotOf act 9 = v5b from hF.slot 9 (by kernel_rfl))
      refine rgw_val (by rw [wanted_of (d := 74) rfl rfl dj]; rfl) (v5b) (by simp [go_sem, e9]) (BR.refl _) ?_
      exact congrArg (fun v => [v]) (slotOf_same act 75 _ (by omega))
    | 37, ho, hD =>
      cases ho
      have dj : slotOf act 74 = .bool false := (List.cons.inj (hD 35 (by decide))).1
      refine rgw_wp (by rw [wanted_of (d := 74) rfl rfl dj]; rfl) rfl ?_
      refine wp_of_run (v := .slice (some ⟨wA.heap.size, 0, none⟩) 3 3) (w' := wA.alloc (.cells #[i64 0, i64 1, i64 3] 3)) (by simp [go_sem]) ?_
      exact ⟨_, rfl, (Below.refl _ _).alloc (Nat.le_refl _) _, _, congrArg (fun v => [v]) (slotOf_same act 76 _ (by omega)), heap_alloc_new _ _⟩
    | 38, ho, hD =>
      cases ho
      have dj : slotOf act 74 = .bool false := (List.cons.inj (hD 35 (by decide))).1
      have e75 := slot_tmps (List.cons.inj (hD 36 (by decide))).1
      obtain ⟨g37, db37, hg37⟩ := hD 37 (by decide)
      have e76 := slot_tmps (List.cons.inj db37).1
      refine rgw_call (by rw [wanted_of (d := 74) rfl rfl dj]; rfl) 50 #[v5b, .slice (some ⟨g37, 0, none⟩) 3 3] (by simp [go_sem, e75, e76]) rfl ?_
      refine (alike_v (hL5.below hR) (ListV.three hg37)).mono ?_
      rintro e wB ⟨rfl, hb⟩
      exact ⟨_, rfl, hb, congrArg (fun v => [v]) (slotOf_same act 77 _ (by omega))⟩
    | 39, ho, hD =>
      cases ho
      have dj : slotOf act 74 = .bool false := (List.cons.inj (hD 35 (by decide))).1
      have e77 := slot_tmps (List.cons.inj (hD 38 (by decide))).1
      refine rgw_val (by rw [wanted_of (d := 74) rfl rfl dj]; rfl) (.bool false) (by simp [go_sem, e77]) (BR.refl _) ?_
      exact congrArg (fun v => [v]) (slotOf_same act 78 _ (by omega))
    | 40, ho, hD =>
      cases ho
      have e74 := slot_tmps (List.cons.inj (hD 35 (by decide))).1
      have e78 := slot_tmps (List.cons.inj (hD 39 (by decide))).1
      refine rgw_val (wanted_none rfl) (.bool false) (by simp [go_sem, e74, e78]) (BR.refl _) ?_
      exact congrArg (fun v => [v]) (slotOf_same act 79 _ (by omega))
    | _ + 41, ho, _ => cases ho
  · intro act wA hR hF hA
    have f1 : slotOf act 1 = .pointer (some ⟨w1.heap.size, 0, none⟩) := hF.slot 1 (by kernel_rfl)
    have f2 : slotOf act 2 = i64 0 := hF.slot 2 (by kernel_rfl)
    have f3 : slotOf act 3 = i64 2 := hF.slot 3 (by kernel_rfl)
    have f4 : slotOf act 4 = i64 0 := hF.slot 4 (by kernel_rfl)
    have f5 : slotOf act 5 = i64 20 := hF.slot 5 (by kernel_rfl)
    have f6 : slotOf act 6 = i64 0 := hF.slot 6 (by kernel_rfl)
    have f7 : slotOf act 7 = i64 3 := hF.slot 7 (by kernel_rfl)
    have f8 : slotOf act 8 = i64 0 := hF.slot 8 (by kernel_rfl)
    have f9 : slotOf act 9 = v5b := hF.slot 9 (by kernel_rfl)
    have f10 : slotOf act 10 = i64 0 := hF.slot 10 (by kernel_rfl)
    have f39 : slotOf act 39 = i64 0 := (List.cons.inj (hA 0 (by decide))).1
    have f40 : slotOf act 40 = .bool false := (List.cons.inj (hA 1 (by decide))).1
    have f41 : slotOf act 41 = .bool false := (List.cons.inj (hA 2 (by decide))).1
    have f42 : slotOf act 42 = i64 0 := (List.cons.inj (hA 3 (by decide))).1
    have f43 : slotOf act 43 = .bool false := (List.cons.inj (hA 4 (by decide))).1
    have f44 : slotOf act 44 = .bool false := (List.cons.inj (hA 5 (by decide))).1
    have f45 : slotOf act 45 = .bool false := (List.cons.inj (hA 6 (by decide))).1
    have f46 : slotOf act 46 = i64 0 := (List.cons.inj (hA 7 (by decide))).1
    have f47 : slotOf act 47 = .bool false := (List.cons.inj (hA 8 (by decide))).1
    have f48 : slotOf act 48 = .bool false := (List.cons.inj (hA 9 (by decide))).1
    have f49 : slotOf act 49 = .bool false := (List.cons.inj (hA 10 (by decide))).1
    have f50 : slotOf act 50 = i64 0 := (List.cons.inj (hA 11 (by decide))).1
    have f51 : slotOf act 51 = .bool false := (List.cons.inj (hA 12 (by decide))).1
    have f52 : slotOf act 52 = .bool false := (List.cons.inj (hA 13 (by decide))).1
    have f53 : slotOf act 53 = .bool false := (List.cons.inj (hA 14 (by decide))).1
    have f54 : slotOf act 54 = i64 0 := (List.cons.inj (hA 15 (by decide))).1
    have f55 : slotOf act 55 = .bool false := (List.cons.inj (hA 16 (by decide))).1
    have f56 : slotOf act 56 = .bool false := (List.cons.inj (hA 17 (by decide))).1
    have f57 : slotOf act 57 = .bool false := (List.cons.inj (hA 18 (by decide))).1
    have f58 : slotOf act 58 = .agg #[i64 12, i64 12] := (List.cons.inj (hA 19 (by decide))).1
    have f59 : slotOf act 59 = .agg #[i64 12, i64 12] := (List.cons.inj (hA 20 (by decide))).1
    have f60 : slotOf act 60 = .bool false := (List.cons.inj (hA 21 (by decide))).1
    have f61 : slotOf act 61 = .bool false := (List.cons.inj (hA 22 (by decide))).1
    have f62 : slotOf act 62 = .bool false := (List.cons.inj (hA 23 (by decide))).1
    have f63 : slotOf act 63 = i64 2 := (List.cons.inj (hA 24 (by decide))).1
    have f64 : slotOf act 64 = .bool false := (List.cons.inj (hA 25 (by decide))).1
    have f65 : slotOf act 65 = .bool false := (List.cons.inj (hA 26 (by decide))).1
    have f66 : slotOf act 66 = .bool false := (List.cons.inj (hA 27 (by decide))).1
    have f67 : slotOf act 67 = i64 20 := (List.cons.inj (hA 28 (by decide))).1
    have f68 : slotOf act 68 = .bool false := (List.cons.inj (hA 29 (by decide))).1
    have f69 : slotOf act 69 = .bool false := (List.cons.inj (hA 30 (by decide))).1
    have f70 : slotOf act 70 = .bool false := (List.cons.inj (hA 31 (by decide))).1
    have f71 : slotOf act 71 = i64 3 := (List.cons.inj (hA 32 (by decide))).1
    have f72 : slotOf act 72 = .bool false := (List.cons.inj (hA 33 (by decide))).1
    have f73 : slotOf act 73 = .bool false := (List.cons.inj (hA 34 (by decide))).1
    have f74 : slotOf act 74 = .bool false := (List.cons.inj (hA 35 (by decide))).1
    have f75 : slotOf act 75 = v5b := (List.cons.inj (hA 36 (by decide))).1
    have f77 : slotOf act 77 = .bool true := (List.cons.inj (hA 38 (by decide))).1
    have f78 : slotOf act 78 = .bool false := (List.cons.inj (hA 39 (by decide))).1
    have f79 : slotOf act 79 = .bool false := (List.cons.inj (hA 40 (by decide))).1
    rw [act_eta act 118 hF.size hF.defers]
    simp only [show List.range 118 = [0, 1, 2, 3, 4, 5, 6, 7, 8, 9, 10, 11, 12, 13, 14, 15, 16, 17, 18, 19, 20, 21, 22, 23, 24, 25, 26, 27, 28, 29, 30, 31, 32, 33, 34, 35, 36, 37, 38, 39, 40, 41, 42, 43, 44, 45, 46, 47, 48, 49, 50, 51, 52, 53, 54, 55, 56, 57, 58, 59, 60, 61, 62, 63, 64, 65, 66, 67, 68, 69, 70, 71, 72, 73, 74, 75, 76, 77, 78, 79, 80, 81, 82, 83, 84, 85, 86, 87, 88, 89, 90, 91, 92, 93, 94, 95, 96, 97, 98, 99, 100, 101, 102, 103, 104, 105, 106, 107, 108, 109, 110, 111, 112, 113, 114, 115, 116, 117] from rfl, List.map_cons, List.map_nil, f1, f2, f3, f4, f5, f6, f7, f8, f9, f10, f39, f40, f41, f42, f43, f44, f45, f46, f47, f48, f49, f50, f51, f52, f53, f54, f55, f56, f57, f58, f59, f60, f61, f62, f63, f64, f65, f66, f67, f68, f69, f70, f71, f72, f73, f74, f75, f77, f78, f79]
    clear hA hF f1 f2 f3 f4 f5 f6 f7 f8 f9 f10 f39 f40 f41 f42 f43 f44 f45 f46 f47 f48 f49 f50 f51 f52 f53 f54 f55 f56 f57 f58 f59 f60 f61 f62 f63 f64 f65 f66 f67 f68 f69 f70 f71 f72 f73 f74 f75 f77 f78 f79
    have ha6 : Below w.heap.size w wA := ha5.trans (Below.mono hR ha5.size)
    clear hx5 hL5 ha5 hR
    go_wp2_with fail
    refine (torn_any _).mono ?_
    rintro e w6a ⟨v6, rfl, hb6a, hB6⟩
    have ha6a := ha6.trans (hb6a.mono ha6.size)
    have hG6a := hG.below ha6a
    go_wp2_with fail
    refine (wrong_v hG6a hB6).mono ?_
    rintro e w6 ⟨v6b, rfl, hb6, hL6⟩
    have ha6 := ha6a.trans (hb6.mono ha6a.size)
    rw [moor6] at hL6 ⊢
    go_wp2_with fail
    refine (own_any _).mono ?_
    rintro e w7a ⟨v7, rfl, hb7a, hB7⟩
    have ha7a := ha6.trans (hb7a.mono ha6.size)
    have hG7a := hG.below ha7a
    go_wp2_with fail
    refine (right_v hG7a hB7).mono ?_
    rintro e w7 ⟨rfl, hb7⟩
    have ha7 := ha7a.trans (hb7.mono ha7a.size)
    rw [moor7]
    go_wp2_with fail
    refine (own_any _).mono ?_
    rintro e w8a ⟨v8, rfl, hb8a, hB8⟩
    have ha8a := ha7.trans (hb8a.mono ha7.size)
    have hG8a := hG.below ha8a
    go_wp2_with fail
    refine (floor_v hG8a hB8 0).mono ?_
    rintro e w8 ⟨rfl, hb8⟩
    have ha8 := ha8a.trans (hb8.mono ha8a.size)
    rw [moor8]
    have hbx : (w8.alloc (.cells #[i64 2, i64 3] 24)).heap[w8.heap.size]? = some (.cells #[i64 2, i64 3] 24 (0, 0)) := heap_alloc_new _ _
    have hax : Below w.heap.size w (w8.alloc (.cells #[i64 2, i64 3] 24)) := ha8.alloc ha8.size _
    have hL8 := ((((hL6.below hb7a).below hb7).below hb8a).below hb8).below ((Below.refl w8.heap.size w8).alloc (Nat.le_refl _) (.cells #[i64 2, i64 3] 24))
    clear hL6 hb6 hb6a hb7 hb7a hb8 hb8a ha6 ha6a ha7 ha7a ha8 ha8a hB6 hB7 hB8 hG6a hG7a hG8a
    go_wp2_with fail
    refine rg_region rdMoB pureMoB (gMoB v6b) BR (by kernel_rfl) (by kernel_rfl) (fun n => BR.drawn _ n) BR.refl (fun _ _ _ => BR.trans) ?_ ?_ ?_
    · intro i hi vs wA wB hG hR
      match i, hi, hG with
      | 0, _, hG => exact hG
      | 1, _, hG => exact hG
      | 2, _, hG => exact hG
      | 3, _, hG => exact hG
      | 4, _, hG => exact hG
      | 5, _, hG => exact hG
      | 6, _, hG => exact hG
      | 7, _, hG => exact hG
      | 8, _, hG => exact hG
      | 9, _, hG => exact hG
      | 10, _, hG => exact hG
      | 11, _, hG => exact hG
      | 12, _, hG => obtain ⟨g, h1, h2⟩ := hG; exact ⟨g, h1, (hR.block _ (Array.getElem?_eq_some_iff.1 h2).1).trans h2⟩
      | 13, _, hG => exact hG
      | 14, _, hG => exact hG
      | 15, _, hG => exact hG
      | 16, _, hG => exact hG
      | 17, _, hG => exact hG
      | 18, _, hG => exact hG
      | 19, _, hG => exact hG
      | 20, _, hG => exact hG
      | 21, _, hG => exact hG
      | 22, _, hG => exact hG
      | 23, _, hG => exact hG
      | _ + 24, _, _ => trivial
    · intro i op ho act wA hR hF hD
      have sz : act.tmps.size = 118 := hF.size
      match i, ho, hD with
      | 0, ho, hD =>
        cases ho
        have e2 := slot_tmps (show slotOf act 2 = i64 0 from hF.slot 2 (by kernel_rfl))
        refine rgw_val (wanted_none rfl) (i64 0) (by simp [go_sem, e2]) (BR.refl _) ?_
        exact congrArg (fun v => [v]) (slotOf_same act 95 _ (by omega))
      | 1, ho, hD =>
        cases ho
        have e95 := slot_tmps (List.cons.inj (hD 0 (by decide))).1
        refine rgw_val (wanted_none rfl) (.bool true) (by simp [go_sem, e95]) (BR.refl _) ?_
        exact congrArg (fun v => [v]) (slotOf_same act 96 _ (by omega))
      | 2, ho, hD =>
        cases ho
        have e96 := slot_tmps (List.cons.inj (hD 1 (by decide))).1
        refine rgw_val (wanted_none rfl) (.bool true) (by simp [go_sem, e96]) (BR.refl _) ?_
        exact congrArg (fun v => [v]) (slotOf_same act 97 _ (by omega))
      | 3, ho, hD =>
        cases ho
        have dj : slotOf act 97 = .bool true := (List.cons.inj (hD 2 (by decide))).1
        have e4 := slot_tmps (show slotOf act 4 = i64 0 from hF.slot 4 (by kernel_rfl))
        refine rgw_val (by rw [wanted_of (d := 97) rfl rfl dj]; rfl) (i64 0) (by simp [go_sem, e4]) (BR.refl _) ?_
        exact congrArg (fun v => [v]) (slotOf_same act 98 _ (by omega))
      | 4, ho, hD =>
        cases ho
        have dj : slotOf act 97 = .bool true := (List.cons.inj (hD 2 (by decide))).1
        have e98 := slot_tmps (List.cons.inj (hD 3 (by decide))).1
        refine rgw_val (by rw [wanted_of (d := 97) rfl rfl dj]; rfl) (.bool true) (by simp [go_sem, e98]) (BR.refl _) ?_
        exact congrArg (fun v => [v]) (slotOf_same act 99 _ (by omega))
      | 5, ho, hD =>
        cases ho
        have e97 := slot_tmps (List.cons.inj (hD 2 (by decide))).1
        have e99 := slot_tmps (List.cons.inj (hD 4 (by decide))).1
        refine rgw_val (wanted_none rfl) (.bool true) (by simp [go_sem, e97, e99]) (BR.refl _) ?_
        exact congrArg (fun v => [v]) (slotOf_same act 100 _ (by omega))
      | 6, ho, hD =>
        cases ho
        have e100 := slot_tmps (List.cons.inj (hD 5 (by decide))).1
        refine rgw_val (wanted_none rfl) (.bool true) (by simp [go_sem, e100]) (BR.refl _) ?_
        exact congrArg (fun v => [v]) (slotOf_same act 101 _ (by omega))
      | 7, ho, hD =>
        cases ho
        have dj : slotOf act 101 = .bool true := (List.cons.inj (hD 6 (by decide))).1
        have e6 := slot_tmps (show slotOf act 6 = i64 0 from hF.slot 6 (by kernel_rfl))
        refine rgw_val (by rw [wanted_of (d := 101) rfl rfl dj]; rfl) (i64 0) (by simp [go_sem, e6]) (BR.refl _) ?_
        exact congrArg (fun v => [v]) (slotOf_same act 102 _ (by omega))
      | 8, ho, hD =>
        cases ho
        have dj : slotOf act 101 = .bool true := (List.cons.inj (hD 6 (by decide))).1
        have e102 := slot_tmps (List.cons.inj (hD 7 (by decide))).1
        refine rgw_val (by rw [wanted_of (d := 101) rfl rfl dj]; rfl) (.bool true) (by simp [go_sem, e102]) (BR.refl _) ?_
        exact congrArg (fun v => [v]) (slotOf_same act 103 _ (by omega))
      | 9, ho, hD =>
        cases ho
        have e101 := slot_tmps (List.cons.inj (hD 6 (by decide))).1
        have e103 := slot_tmps (List.cons.inj (hD 8 (by decide))).1
        refine rgw_val (wanted_none rfl) (.bool true) (by simp [go_sem, e101, e103]) (BR.refl _) ?_
        exact congrArg (fun v => [v]) (slotOf_same act 104 _ (by omega))
      | 10, ho, hD =>
        cases ho
        have e104 := slot_tmps (List.cons.inj (hD 9 (by decide))).1
        refine rgw_val (wanted_none rfl) (.bool true) (by simp [go_sem, e104]) (BR.refl _) ?_
        exact congrArg (fun v => [v]) (slotOf_same act 105 _ (by omega))
      | 11, ho, hD =>
        cases ho
        have dj : slotOf act 105 = .bool true := (List.cons.inj (hD 10 (by decide))).1
        have e11 := slot_tmps (show slotOf act 11 = v6b from hF.slot 11 (by kernel_rfl))
        refine rgw_val (by rw [wanted_of (d := 105) rfl rfl dj]; rfl) (v6b) (by simp [go_sem, e11]) (BR.refl _) ?_
        exact congrArg (fun v => [v]) (slotOf_same act 106 _ (by omega))
      | 12, ho, hD =>
        cases ho
        have dj : slotOf act 105 = .bool true := (List.cons.inj (hD 10 (by decide))).1
        refine rgw_wp (by rw [wanted_of (d := 105) rfl rfl dj]; rfl) rfl ?_
        refine wp_of_run (v := .slice (some ⟨wA.heap.size, 0, none⟩) 1 1) (w' := wA.alloc (.cells #[i64 0] 3)) (by simp [go_sem]) ?_
        exact ⟨_, rfl, (Below.refl _ _).alloc (Nat.le_refl _) _, _, congrArg (fun v => [v]) (slotOf_same act 107 _ (by omega)), heap_alloc_new _ _⟩
      | 13, ho, hD =>
        cases ho
        have dj : slotOf act 105 = .bool true := (List.cons.inj (hD 10 (by decide))).1
        have e106 := slot_tmps (List.cons.inj (hD 11 (by decide))).1
        obtain ⟨g12, db12, hg12⟩ := hD 12 (by decide)
        have e107 := slot_tmps (List.cons.inj db12).1
        refine rgw_call (by rw [wanted_of (d := 105) rfl rfl dj]; rfl) 50 #[v6b, .slice (some ⟨g12, 0, none⟩) 1 1] (by simp [go_sem, e106, e107]) rfl ?_
        refine (alike_v (hL8.below hR) (ListV.one hg12)).mono ?_
        rintro e wB ⟨rfl, hb⟩
        exact ⟨_, rfl, hb, congrArg (fun v => [v]) (slotOf_same act 108 _ (by omega))⟩
      | 14, ho, hD =>
        cases ho
        have e105 := slot_tmps (List.cons.inj (hD 10 (by decide))).1
        have e108 := slot_tmps (List.cons.inj (hD 13 (by decide))).1
        refine rgw_val (wanted_none rfl) (.bool true) (by simp [go_sem, e105, e108]) (BR.refl _) ?_
        exact congrArg (fun v => [v]) (slotOf_same act 109 _ (by omega))
      | 15, ho, hD =>
        cases ho
        have e109 := slot_tmps (List.cons.inj (hD 14 (by decide))).1
        refine rgw_val (wanted_none rfl) (.bool true) (by simp [go_sem, e109]) (BR.refl _) ?_
        exact congrArg (fun v => [v]) (slotOf_same act 110 _ (by omega))
      | 16, ho, hD =>
        cases ho
        have dj : slotOf act 110 = .bool true := (List.cons.inj (hD 15 (by decide))).1
        have e12 := slot_tmps (show slotOf act 12 = .bool true from hF.slot 12 (by kernel_rfl))
        refine rgw_val (by rw [wanted_of (d := 110) rfl rfl dj]; rfl) (.bool true) (by simp [go_sem, e12]) (BR.refl _) ?_
        exact congrArg (fun v => [v]) (slotOf_same act 111 _ (by omega))
      | 17, ho, hD =>
        cases ho
        have e110 := slot_tmps (List.cons.inj (hD 15 (by decide))).1
        have e111 := slot_tmps (List.cons.inj (hD 16 (by decide))).1
        refine rgw_val (wanted_none rfl) (.bool true) (by simp [go_sem, e110, e111]) (BR.refl _) ?_
        exact congrArg (fun v => [v]) (slotOf_same act 112 _ (by omega))
      | 18, ho, hD =>
        cases ho
        have e112 := slot_tmps (List.cons.inj (hD 17 (by decide))).1
        refine rgw_val (wanted_none rfl) (.bool true) (by simp [go_sem, e112]) (BR.refl _) ?_
        exact congrArg (fun v => [v]) (slotOf_same act 113 _ (by omega))
      | 19, ho, hD =>
        cases ho
        have dj : slotOf act 113 = .bool true := (List.cons.inj (hD 18 (by decide))).1
        have e13 := slot_tmps (show slotOf act 13 = .pointer (some ⟨w8.heap.size, 0, none⟩) from hF.slot 13 (by kernel_rfl))
        have sv : act.eval (.tmp 13) = .pointer (some ⟨w8.heap.size, 0, none⟩) := hF.slot 13 (by kernel_rfl)
        have hxA := (hR.block _ (Array.getElem?_eq_some_iff.1 hbx).1).trans hbx
        refine rgw_val (by rw [wanted_of (d := 113) rfl rfl dj]; rfl) (.agg #[i64 2, i64 3]) (by exact ex_load_row 24 _ rfl _ sv 24 _ (0, 0) _ hxA Tryd.underlying24 rfl (by rw [size24]; rfl)) (BR.refl _) ?_
        exact congrArg (fun v => [v]) (slotOf_same act 114 _ (by omega))
      | 20, ho, hD =>
        cases ho
        have dj : slotOf act 113 = .bool true := (List.cons.inj (hD 18 (by decide))).1
        refine rgw_call (by rw [wanted_of (d := 113) rfl rfl dj]; rfl) 48 #[i64 2, i64 3] (by simp [go_sem]) rfl ?_
        refine (range_any 2 3 wA).mono ?_
        rintro e wB ⟨rfl, hb⟩
        exact ⟨_, rfl, hb, congrArg (fun v => [v]) (slotOf_same act 115 _ (by omega))⟩
      | 21, ho, hD =>
        cases ho
        have dj : slotOf act 113 = .bool true := (List.cons.inj (hD 18 (by decide))).1
        have e114 := slot_tmps (List.cons.inj (hD 19 (by decide))).1
        have e115 := slot_tmps (List.cons.inj (hD 20 (by decide))).1
        refine rgw_val (by rw [wanted_of (d := 113) rfl rfl dj]; rfl) (.bool true) (by simp [go_sem, e114, e115]) (BR.refl _) ?_
        exact congrArg (fun v => [v]) (slotOf_same act 116 _ (by omega))
      | 22, ho, hD =>
        cases ho
        have e113 := slot_tmps (List.cons.inj (hD 18 (by decide))).1
        have e116 := slot_tmps (List.cons.inj (hD 21 (by decide))).1
        refine rgw_val (wanted_none rfl) (.bool true) (by simp [go_sem, e113, e116]) (BR.refl _) ?_
        exact congrArg (fun v => [v]) (slotOf_same act 117 _ (by omega))
      | 23, ho, hD =>
        cases ho
        have e117 := slot_tmps (List.cons.inj (hD 22 (by decide))).1
        refine rgw_val (wanted_none rfl) (.bool true) (by simp [go_sem, e117]) (BR.refl _) ?_
        exact congrArg (fun v => [v]) (slotOf_same act 0 _ (by omega))
      | _ + 24, ho, _ => cases ho
    · intro act wA hR hF hA
      have f2 : slotOf act 2 = i64 0 := hF.slot 2 (by kernel_rfl)
      have f4 : slotOf act 4 = i64 0 := hF.slot 4 (by kernel_rfl)
      have f6 : slotOf act 6 = i64 0 := hF.slot 6 (by kernel_rfl)
      have f11 : slotOf act 11 = v6b := hF.slot 11 (by kernel_rfl)
      have f12 : slotOf act 12 = .bool true := hF.slot 12 (by kernel_rfl)
      have f13 : slotOf act 13 = .pointer (some ⟨w8.heap.size, 0, none⟩) := hF.slot 13 (by kernel_rfl)
      have f0 : slotOf act 0 = .bool true := (List.cons.inj (hA 23 (by decide))).1
      have f95 : slotOf act 95 = i64 0 := (List.cons.inj (hA 0 (by decide))).1
      have f96 : slotOf act 96 = .bool true := (List.cons.inj (hA 1 (by decide))).1
      have f97 : slotOf act 97 = .bool true := (List.cons.inj (hA 2 (by decide))).1
      have f98 : slotOf act 98 = i64 0 := (List.cons.inj (hA 3 (by decide))).1
      have f99 : slotOf act 99 = .bool true := (List.cons.inj (hA 4 (by decide))).1
      have f100 : slotOf act 100 = .bool true := (List.cons.inj (hA 5 (by decide))).1
      have f101 : slotOf act 101 = .bool true := (List.cons.inj (hA 6 (by decide))).1
      have f102 : slotOf act 102 = i64 0 := (List.cons.inj (hA 7 (by decide))).1
      have f103 : slotOf act 103 = .bool true := (List.cons.inj (hA 8 (by decide))).1
      have f104 : slotOf act 104 = .bool true := (List.cons.inj (hA 9 (by decide))).1
      have f105 : slotOf act 105 = .bool true := (List.cons.inj (hA 10 (by decide))).1
      have f106 : slotOf act 106 = v6b := (List.cons.inj (hA 11 (by decide))).1
      have f108 : slotOf act 108 = .bool true := (List.cons.inj (hA 13 (by decide))).1
      have f109 : slotOf act 109 = .bool true := (List.cons.inj (hA 14 (by decide))).1
      have f110 : slotOf act 110 = .bool true := (List.cons.inj (hA 15 (by decide))).1
      have f111 : slotOf act 111 = .bool true := (List.cons.inj (hA 16 (by decide))).1
      have f112 : slotOf act 112 = .bool true := (List.cons.inj (hA 17 (by decide))).1
      have f113 : slotOf act 113 = .bool true := (List.cons.inj (hA 18 (by decide))).1
      have f114 : slotOf act 114 = .agg #[i64 2, i64 3] := (List.cons.inj (hA 19 (by decide))).1
      have f115 : slotOf act 115 = .agg #[i64 2, i64 3] := (List.cons.inj (hA 20 (by decide))).1
      have f116 : slotOf act 116 = .bool true := (List.cons.inj (hA 21 (by decide))).1
      have f117 : slotOf act 117 = .bool true := (List.cons.inj (hA 22 (by decide))).1
      rw [act_eta act 118 hF.size hF.defers]
      simp only [show List.range 118 = [0, 1, 2, 3, 4, 5, 6, 7, 8, 9, 10, 11, 12, 13, 14, 15, 16, 17, 18, 19, 20, 21, 22, 23, 24, 25, 26, 27, 28, 29, 30, 31, 32, 33, 34, 35, 36, 37, 38, 39, 40, 41, 42, 43, 44, 45, 46, 47, 48, 49, 50, 51, 52, 53, 54, 55, 56, 57, 58, 59, 60, 61, 62, 63, 64, 65, 66, 67, 68, 69, 70, 71, 72, 73, 74, 75, 76, 77, 78, 79, 80, 81, 82, 83, 84, 85, 86, 87, 88, 89, 90, 91, 92, 93, 94, 95, 96, 97, 98, 99, 100, 101, 102, 103, 104, 105, 106, 107, 108, 109, 110, 111, 112, 113, 114, 115, 116, 117] from rfl, List.map_cons, List.map_nil, f2, f4, f6, f11, f12, f13, f0, f95, f96, f97, f98, f99, f100, f101, f102, f103, f104, f105, f106, f108, f109, f110, f111, f112, f113, f114, f115, f116, f117]
      clear hA hF f2 f4 f6 f11 f12 f13 f0 f95 f96 f97 f98 f99 f100 f101 f102 f103 f104 f105 f106 f108 f109 f110 f111 f112 f113 f114 f115 f116 f117
      have ha9 : Below w.heap.size w wA := hax.trans (Below.mono hR hax.size)
      go_wp2_with fail
      go_ret
      exact ⟨rfl, ha9⟩
end Go.Proofs.YtkbmpkdflgimmaaDoor
/- The contract of sound: whether a book is valid. -/
namespace Go.Proofs.YtkbmpkdflgimmaaDoor
open Go.RowKit Go.Shelf

/-- What a valid shore is. -/
structure ShV (x : Shore) : Prop where
  fl : -40 ≤ x.fl
  ff : x.fl ≤ x.fh
  fh : x.fh ≤ 80
  fn : x.fh - x.fl ≤ 4
  lo : -40 ≤ x.lo
  lh : x.lo ≤ x.hi
  hi : x.hi ≤ 80
/-- What a valid book is. -/
structure Vld (B : Book) : Prop where
  h1 : 1 ≤ B.tides.length
  h24 : B.tides.length ≤ 24
  e0 : 0 ≤ B.el
  ee : B.el ≤ B.eh
  e40 : B.eh ≤ 40
  e4 : B.eh - B.el ≤ 4
  k1 : 1 ≤ B.sink
  k20 : B.sink ≤ 20
  u0 : 0 ≤ B.under
  u10 : B.under ≤ 10
  s6 : B.sounds.length ≤ 6
  tides : ∀ t ∈ B.tides, -40 ≤ t.lo ∧ t.lo ≤ t.hi ∧ t.hi ≤ 80 ∧ t.hi - t.lo ≤ 4
  sh0 : ShV B.s0
  sh1 : ShV B.s1
  sounds : ∀ y ∈ B.sounds, (0 ≤ y.hour ∧ y.hour ≤ (B.tides.length : Int) - 1) ∧ (0 ≤ y.shore ∧ y.shore ≤ 1) ∧ 0 ≤ y.deep ∧ y.deep ≤ 120
theorem valid_iff {B : Book} : B.valid = true ↔ Vld B := by
  constructor
  · intro h
    simp [Book.valid, hdrB, inB, spanB, shoreOk, spanOk, soundOk, List.all_eq_true] at h
    obtain ⟨⟨⟨⟨⟨⟨a1, a2⟩, ⟨b1, b2, b3, b4⟩, ⟨c1, c2⟩, ⟨d1, d2⟩, e⟩, ht⟩, ⟨⟨f1, f2, f3, f4⟩, ⟨g1, g2⟩, g3⟩⟩, ⟨⟨i1, i2, i3, i4⟩, ⟨j1, j2⟩, j3⟩⟩, hs⟩ := h
    refine ⟨by omega, by omega, by omega, by omega, by omega, by omega, by omega, by omega, by omega, by omega, by omega, fun t ht' => ?_, ⟨by omega, by omega, by omega, by omega, by omega, by omega, by omega⟩, ⟨by omega, by omega, by omega, by omega, by omega, by omega, by omega⟩, fun y hy => ?_⟩
    · have := ht t ht'
      omega
    · have := hs y hy
      omega
  · intro h
    have h1 := h.h1
    have h2 := h.h24
    have h3 := h.s6
    simp only [Book.valid, hdrB, inB, spanB, shoreOk, spanOk, soundOk, List.all_eq_true, Bool.and_eq_true, decide_eq_true_eq]
    refine ⟨⟨⟨⟨⟨⟨by omega, by omega⟩, ⟨h.e0, h.ee, h.e40, h.e4⟩, ⟨h.k1, h.k20⟩, ⟨h.u0, h.u10⟩, by omega⟩, fun t ht => ?_⟩, ⟨⟨h.sh0.fl, h.sh0.ff, h.sh0.fh, h.sh0.fn⟩, ⟨h.sh0.lo, h.sh0.lh⟩, h.sh0.hi⟩⟩, ⟨⟨h.sh1.fl, h.sh1.ff, h.sh1.fh, h.sh1.fn⟩, ⟨h.sh1.lo, h.sh1.lh⟩, h.sh1.hi⟩⟩, fun y hy => ?_⟩
    · have := h.tides t ht
      exact ⟨this.1, this.2.1, this.2.2.1, this.2.2.2⟩
    · obtain ⟨⟨a, b⟩, ⟨c, d⟩, e, f⟩ := h.sounds y hy
      exact ⟨⟨a, b⟩, ⟨c, d⟩, e, f⟩
def validB (a b lo hi : Int) : Bool := decide (lo ≤ a) && (decide (a ≤ b) && decide (b ≤ hi))
theorem valid24_any (a b lo hi : Int) (w : World) : Calls Tryd.prog 68 #[.agg #[i64 a, i64 b], i64 lo, i64 hi] w fun e w' => e = .returned (.bool (validB a b lo hi)) ∧ Below w.heap.size w w' := by
  by_cases h1 : lo ≤ a
  · by_cases h2 : a ≤ b
    · have h := Lib.hid (show validB a b lo hi = decide (b ≤ hi) by simp [validB, h1, h2])
      go_enter Tryd.func68, Tryd.ntmps68
      go_wp2
      go_ret
      exact ⟨by rw [h.out]; rfl, (Below.refl _ _).alloc (Nat.le_refl _) _⟩
    · have h := Lib.hid (show validB a b lo hi = false by simp [validB, h2])
      have h2' : b < a := by omega
      go_enter Tryd.func68, Tryd.ntmps68
      go_wp2
      go_ret
      exact ⟨by rw [h.out]; rfl, (Below.refl _ _).alloc (Nat.le_refl _) _⟩
  · have h := Lib.hid (show validB a b lo hi = false by simp [validB, h1])
    have h1' : a < lo := by omega
    go_enter Tryd.func68, Tryd.ntmps68
    go_wp2
    go_ret
    exact ⟨by rw [h.out]; rfl, (Below.refl _ _).alloc (Nat.le_refl _) _⟩
theorem validB_true {a b lo hi : Int} (h1 : lo ≤ a) (h2 : a ≤ b) (h3 : b ≤ hi) : validB a b lo hi = true := by simp [validB, h1, h2, h3]
theorem inB_true {n lo hi : Int} (h1 : lo ≤ n) (h2 : n ≤ hi) : inB n lo hi = true := by simp [inB, h1, h2]
def SoundPost (B : Book) (w : World) (e : Ending) (w' : World) : Prop := e = .returned (.bool B.valid) ∧ Below w.heap.size w w'
set_option maxRecDepth 100000 in
set_option maxHeartbeats 4000000 in
theorem sound_bad (B : Book) (tb tq : Nat) (ta : Option Addr) (tc : Nat) (sb sq : Nat) (sa : Option Addr) (sc : Nat) (w : World) (hT : SpansAt w.heap.size w tb tq ta B.tides) (hS : SoundsAt w.heap.size w sb sq sa B.sounds) (hv : B.valid = false) :
    Calls Tryd.prog 21 #[bookVal B ta tc sa sc] w (SoundPost B w) := by
  have hb0 : Below w.heap.size w (w.alloc (.cells (bookCells B ta tc sa sc) 30)) := (Below.refl _ w).alloc (Nat.le_refl _) _
  have hx0 : (w.alloc (.cells (bookCells B ta tc sa sc) 30)).heap[w.heap.size]? = some (.cells (bookCells B ta tc sa sc) 30 (0, 0)) := heap_alloc_new w _
  have hC : Hid (checkE B = 20) := Lib.hid (by simp [checkE, hv])
  have hv := Lib.hid hv
  go_enter Tryd.func21, Tryd.ntmps21
  go_wp2_with (first | (refine ld30 rfl _ rfl _ _ rfl hx0 rfl ?_) | (go_at_call 43; refine (check_any B _ _ _ _ _ _ _ _ _ ((hT.same (Same.of_below hb0)).up hb0.size) ((hS.same (Same.of_below hb0)).up hb0.size)).mono ?_; rintro e w1 ⟨rfl, hb⟩; rw [hC.out]))
  refine wp_loop_rounds 1 ?_
  rw [rounds_succ]
  go_wp2_with fail
  refine wp_loop_rounds 1 ?_
  rw [rounds_succ]
  go_wp2_with fail
  refine wp_loop_rounds 1 ?_
  rw [rounds_succ]
  go_wp2_with fail
  go_ret
  exact ⟨by rw [hv.out]; rfl, hb0.trans (hb.mono hb0.size)⟩
set_option maxRecDepth 100000 in
set_option maxHeartbeats 4000000 in
theorem sound_good (B : Book) (tb tq : Nat) (ta : Option Addr) (tc : Nat) (sb sq : Nat) (sa : Option Addr) (sc : Nat) (w : World) (hT : SpansAt w.heap.size w tb tq ta B.tides) (hS : SoundsAt w.heap.size w sb sq sa B.sounds) (hv : B.valid = true) :
    Calls Tryd.prog 21 #[bookVal B ta tc sa sc] w (SoundPost B w) := by
  have hb0 : Below w.heap.size w (w.alloc (.cells (bookCells B ta tc sa sc) 30)) := (Below.refl _ w).alloc (Nat.le_refl _) _
  have hx0 : (w.alloc (.cells (bookCells B ta tc sa sc) 30)).heap[w.heap.size]? = some (.cells (bookCells B ta tc sa sc) 30 (0, 0)) := heap_alloc_new w _
  have hC : Hid (checkE B = 0) := Lib.hid (by simp [checkE, hv])
  have hV := valid_iff.1 hv
  have hv := Lib.hid hv
  have h1 := hV.h1
  have h24 := hV.h24
  have hs6 := hV.s6
  have i1 := Lib.hid (inB_true (n := (B.tides.length : Int)) (lo := 1) (hi := 24) (by omega) (by omega))
  have i2 := Lib.hid (validB_true hV.e0 hV.ee hV.e40)
  have i3 := Lib.hid (inB_true hV.k1 hV.k20)
  have i4 := Lib.hid (inB_true hV.u0 hV.u10)
  have i5 := Lib.hid (validB_true hV.sh0.fl hV.sh0.ff hV.sh0.fh)
  have i6 := Lib.hid (validB_true hV.sh1.fl hV.sh1.ff hV.sh1.fh)
  have i7 := Lib.hid (inB_true hV.sh0.lo hV.sh0.lh)
  have i8 := Lib.hid (inB_true hV.sh1.lo hV.sh1.lh)
  have hs6' : decide ((B.sounds.length : Int) ≤ 6) = true := decide_eq_true (by omega)
  have j0 := hV.sh0.hi
  have j1 := hV.sh1.hi
  go_enter Tryd.func21, Tryd.ntmps21
  go_wp2_with (first | (refine ld30 rfl _ rfl _ _ rfl hx0 rfl ?_) | (go_at_call 43; refine (check_any B _ _ _ _ _ _ _ _ _ ((hT.same (Same.of_below hb0)).up hb0.size) ((hS.same (Same.of_below hb0)).up hb0.size)).mono ?_; rintro e w1 ⟨rfl, hb⟩; rw [hC.out]; have hx1 := (hb.block _ (by simp)).trans hx0; have hxc := cells_of hx1; have hxl := (Array.getElem?_eq_some_iff.1 hx1).1; have hba := hb0.trans (hb.mono hb0.size)) | (go_at_call 31; (with_reducible refine (inside_any _ _ _ _).mono ?_); rintro e w' ⟨rfl, rfl⟩; first | rw [i1.out] | rw [i3.out] | rw [i4.out]) | (go_at_call 68; refine (valid24_any _ _ _ _ _).mono ?_; rintro e w2 ⟨rfl, hb2⟩; rw [i2.out]; have hx2 := (hb2.block _ hxl).trans hx1; have hxc2 := cells_of hx2; have hxl2 := (Array.getElem?_eq_some_iff.1 hx2).1; have hbb := hba.trans (hb2.mono hba.size)))
  refine abs_world (fun W => Below w.heap.size w W ∧ W.heap[w.heap.size]? = some (.cells (bookCells B ta tc sa sc) 30 (0, 0))) ⟨hbb, hx2⟩ ?_
  clear hbb hx2 hxc2 hxl2 hb2 hx1 hxc hxl hba hb hx0 hb0
  rintro W2 ⟨hbb, hx2⟩
  go_loopw [4, 3] (fun i ok wr => ∃ k : Nat, k ≤ B.tides.length ∧ i = .int .i64 k ∧ ok = .bool true ∧ Below W2.heap.size W2 wr) (fun i _ _ => B.tides.length - (intOf i).toNat)
  case atStart => exact ⟨0, Nat.zero_le _, rfl, rfl, Below.refl _ _⟩
  case round =>
    obtain ⟨k, hk, rfl, rfl, hbw⟩ := hrel
    have hxr := (hbw.block _ (Array.getElem?_eq_some_iff.1 hx2).1).trans hx2
    have hxc := cells_of hxr
    have hxl := (Array.getElem?_eq_some_iff.1 hxr).1
    have hbk := hbb.trans (hbw.mono hbb.size)
    by_cases hlt : k < B.tides.length
    · have hT1 := (hT.same (Same.of_below hbk))
      have hidx := fun W => idx22 (n := B.tides.length) (c := tc) (k := k) W (hT1.at_ (ne_nil_of_lt hlt)) hlt
      have hc1 := hT1.lo k hlt
      have hc2 := hT1.hi k hlt
      have hlk : (k : Int) < (B.tides.length : Int) := by omega
      obtain ⟨t1, t2, t3, _⟩ := hV.tides _ (List.getElem_mem hlt)
      have it := Lib.hid (validB_true t1 t2 t3)
      clear t1 t2 t3
      go_wp2_with (go_at_call 68; refine (valid24_any _ _ _ _ _).mono ?_; rintro e w2 ⟨rfl, hb2⟩; rw [it.out]; have hbw2 := hbw.trans (hb2.mono hbw.size))
      go_roundw
      case rel => exact ⟨k + 1, by omega, by go_num, rfl, hbw2⟩
      case measure => simp [intOf]; omega
    · have hlk : ¬ (k : Int) < (B.tides.length : Int) := by omega
      go_wp2_with fail
      obtain ⟨W3, rfl⟩ : ∃ W3 : World, W3 = wr := ⟨_, rfl⟩
      go_loopw [5, 3] (fun i ok wr2 => ∃ k : Nat, k ≤ 2 ∧ i = .int .i64 k ∧ ok = .bool true ∧ Below W3.heap.size W3 wr2) (fun i _ _ => 2 - (intOf i).toNat)
      case atStart => exact ⟨0, Nat.zero_le _, rfl, rfl, Below.refl _ _⟩
      case round =>
        obtain ⟨k2, hk2, rfl, rfl, hbw2⟩ := hrel
        obtain ⟨wr2, rfl⟩ : ∃ wr2 : World, wr2 = wr := ⟨_, rfl⟩
        have hxr := (hbw2.block _ hxl).trans hxr
        have hxc := cells_of hxr
        have hxl := (Array.getElem?_eq_some_iff.1 hxr).1
        have hbk2 := hbk.trans (hbw2.mono hbk.size)
        rcases (by omega : k2 = 0 ∨ k2 = 1 ∨ k2 = 2) with rfl | rfl | rfl
        · go_wp2_with (first | (go_at_call 68; refine (valid24_any _ _ _ _ _).mono ?_; rintro e w2 ⟨rfl, hb2⟩; rw [i5.out]; have hy := (hb2.block wr2.heap.size (by simp)).trans (heap_alloc_new wr2 _); have hyc := cells_of hy; have hyl := (Array.getElem?_eq_some_iff.1 hy).1; have hbw3 := hbw2.trans ((((Below.refl _ wr2).alloc (Nat.le_refl _) _).trans (hb2.mono (by simp))).mono hbw2.size)) | (go_at_call 31; (with_reducible refine (inside_any _ _ _ _).mono ?_); rintro e w' ⟨rfl, rfl⟩; rw [i7.out]))
          go_roundw
          case rel => exact ⟨1, by omega, by go_num, rfl, hbw3⟩
          case measure => simp [intOf]
        · go_wp2_with (first | (go_at_call 68; refine (valid24_any _ _ _ _ _).mono ?_; rintro e w2 ⟨rfl, hb2⟩; rw [i6.out]; have hy := (hb2.block wr2.heap.size (by simp)).trans (heap_alloc_new wr2 _); have hyc := cells_of hy; have hyl := (Array.getElem?_eq_some_iff.1 hy).1; have hbw3 := hbw2.trans ((((Below.refl _ wr2).alloc (Nat.le_refl _) _).trans (hb2.mono (by simp))).mono hbw2.size)) | (go_at_call 31; (with_reducible refine (inside_any _ _ _ _).mono ?_); rintro e w' ⟨rfl, rfl⟩; rw [i8.out]))
          go_roundw
          case rel => exact ⟨2, by omega, by go_num, rfl, hbw3⟩
          case measure => simp [intOf]
        · go_wp2_with fail
          go_loopw [7, 3] (fun i ok wr3 => ∃ k : Nat, k ≤ B.sounds.length ∧ i = .int .i64 k ∧ ok = .bool true ∧ Below wr2.heap.size wr2 wr3) (fun i _ _ => B.sounds.length - (intOf i).toNat)
          case atStart => exact ⟨0, Nat.zero_le _, rfl, rfl, Below.refl _ _⟩
          case round =>
            obtain ⟨k3, hk3, rfl, rfl, hbw3⟩ := hrel
            obtain ⟨wr3, rfl⟩ : ∃ wr3 : World, wr3 = wr := ⟨_, rfl⟩
            have hxr := (hbw3.block _ hxl).trans hxr
            have hxc := cells_of hxr
            have hxl := (Array.getElem?_eq_some_iff.1 hxr).1
            have hbk3 := hbk2.trans (hbw3.mono hbk2.size)
            by_cases hlt3 : k3 < B.sounds.length
            · have hS1 := (hS.same (Same.of_below hbk3))
              have hidx := fun W => idx28 (n := B.sounds.length) (c := sc) (k := k3) W (hS1.at_ (ne_nil_of_lt hlt3)) hlt3
              have hc1 := hS1.hour k3 hlt3
              have hc2 := hS1.shore k3 hlt3
              have hc3 := hS1.deep k3 hlt3
              have hlk3 : (k3 : Int) < (B.sounds.length : Int) := by omega
              obtain ⟨⟨t1, t2⟩, ⟨t3, t4⟩, _⟩ := hV.sounds _ (List.getElem_mem hlt3)
              have it := Lib.hid (inB_true t1 t2)
              have it2 := Lib.hid (inB_true t3 t4)
              clear t1 t2 t3 t4
              go_wp2_with (go_at_call 31; (with_reducible refine (inside_any _ _ _ _).mono ?_); rintro e w' ⟨rfl, rfl⟩; first | rw [it.out] | rw [it2.out])
              go_roundw
              case rel =>
                (repeat apply Exists.intro)
                refine ⟨?_, rfl⟩
                exact ⟨k3 + 1, by omega, by go_num, rfl, hbw3.alloc hbw3.size _⟩
              case measure => simp [intOf]; omega
            · have hlk3 : ¬ (k3 : Int) < (B.sounds.length : Int) := by omega
              go_wp2_with fail
              go_ret
              exact ⟨by rw [hv.out]; rfl, hbk3⟩
theorem sound_any (B : Book) (tb tq : Nat) (ta : Option Addr) (tc : Nat) (sb sq : Nat) (sa : Option Addr) (sc : Nat) (w : World) (hT : SpansAt w.heap.size w tb tq ta B.tides) (hS : SoundsAt w.heap.size w sb sq sa B.sounds) :
    Calls Tryd.prog 21 #[bookVal B ta tc sa sc] w (SoundPost B w) := by
  cases hv : B.valid
  · exact sound_bad B tb tq ta tc sb sq sa sc w hT hS hv
  · exact sound_good B tb tq ta tc sb sq sa sc w hT hS hv
theorem sound_v {W : World} {v : Value} {B : Book} (hB : BookV W v B) : Calls Tryd.prog 21 #[v] W (SoundPost B W) := by
  obtain ⟨tb, tq, ta, tc, sb, sq, sa, sc, rfl, hT, hS⟩ := hB
  exact sound_any B tb tq ta tc sb sq sa sc W hT hS
end Go.Proofs.YtkbmpkdflgimmaaDoor
/- Plain laws: what the exported functions answer of a valid book and a good question. -/
namespace Go.Proofs.YtkbmpkdflgimmaaDoor

theorem ask_cases {B : Book} (h : B.valid = true) : ((¬ ∃ f, CC B [] f) ∧ askE B true = 22) ∨ ((∃ f, CC B [] f) ∧ askE B true = 0) := by
  unfold askE
  rw [if_pos h, if_pos rfl]
  cases he : (ext0 B (dep B.sounds [])).isEmpty
  · right
    exact ⟨cans_ne.1 he, by simp⟩
  · left
    refine ⟨fun hc => ?_, by simp⟩
    have := cans_ne.2 hc
    rw [cansB, he] at this
    cases this
theorem ask_bad {B : Book} (h : B.valid = false) (is : Bool) : askE B is = 20 := by simp [askE, h]
theorem ask_not {B : Book} (h : B.valid = true) : askE B false = 21 := by simp [askE, h]
/-- A good question. -/
structure Qs (B : Book) (s hr ld : Int) : Prop where
  s0 : 0 ≤ s
  s1 : s ≤ 1
  h0 : 0 ≤ hr
  h1 : hr < B.tides.length
  l0 : 0 ≤ ld
  l1 : ld ≤ 200
theorem Qs.sh {B : Book} {s hr ld : Int} (q : Qs B s hr ld) : inB s 0 1 = true := inB_true q.s0 q.s1
theorem Qs.ho {B : Book} {s hr ld : Int} (q : Qs B s hr ld) : hourB B hr = true := inB_true q.h0 (by have := q.h1; omega)
theorem Qs.lo {B : Book} {s hr ld : Int} (q : Qs B s hr ld) : inB ld 0 200 = true := inB_true q.l0 q.l1
theorem Qs.load {B : Book} {s hr ld ld' : Int} (q : Qs B s hr ld) (h0 : 0 ≤ ld') (h1 : ld' ≤ 200) : Qs B s hr ld' := ⟨q.s0, q.s1, q.h0, q.h1, h0, h1⟩
theorem Qs.hour {B : Book} {s hr ld hr' : Int} (q : Qs B s hr ld) (h0 : 0 ≤ hr') (h1 : hr' < B.tides.length) : Qs B s hr' ld := ⟨q.s0, q.s1, h0, h1, q.l0, q.l1⟩
theorem Qs.shore {B : Book} {s hr ld s' : Int} (q : Qs B s hr ld) (h0 : 0 ≤ s') (h1 : s' ≤ 1) : Qs B s' hr ld := ⟨h0, h1, q.h0, q.h1, q.l0, q.l1⟩
/-- 2, 1 or 0. -/
def kindB (B : Book) (s hr ld : Int) : Int := (if maybeB B s hr ld then 1 else 0) + (if sureB B s hr ld then 1 else 0)
theorem kind_range (B : Book) (s hr ld : Int) : 0 ≤ kindB B s hr ld ∧ kindB B s hr ld ≤ 2 := by
  unfold kindB
  cases maybeB B s hr ld <;> cases sureB B s hr ld <;> simp
theorem landsB_empty {B : Book} {s ld h f e e' : Int} (he : e' ≤ e) (hl : landsB B s ld h f e = true) : landsB B s ld h f e' = true := by
  simp only [landsB, Bool.and_eq_true, decide_eq_true_eq] at hl ⊢
  exact ⟨by omega, hl.2⟩
theorem CC.height {B : Book} {but : List Int} {f : Int × Int} (h : CC B but f) {hr : Int} (h0 : 0 ≤ hr) (h1 : hr < B.tides.length) : ∃ x, HH B but hr f x := by
  have := h.2.2 hr.toNat (by omega)
  rwa [Int.toNat_of_nonneg h0] at this
theorem sure_maybe {B : Book} (hV : Vld B) (hc : ∃ f, CC B [] f) {s hr ld : Int} (h0 : 0 ≤ hr) (h1 : hr < B.tides.length) (h : sureB B s hr ld = true) : maybeB B s hr ld = true := by
  obtain ⟨f, hf⟩ := hc
  obtain ⟨x, hx⟩ := hf.height h0 h1
  exact maybeB_iff.2 ⟨f, hf, x, hx, landsB_empty hV.ee (sureB_iff.1 h f hf x hx)⟩
theorem kind_two {B : Book} (hV : Vld B) (hc : ∃ f, CC B [] f) {s hr ld : Int} (h0 : 0 ≤ hr) (h1 : hr < B.tides.length) : kindB B s hr ld = 2 ↔ sureB B s hr ld = true := by
  unfold kindB
  constructor
  · intro h
    cases hs : sureB B s hr ld
    · rw [hs] at h
      cases hm : maybeB B s hr ld <;> simp [hm] at h
    · rfl
  · intro h
    rw [h, sure_maybe hV hc h0 h1 h]
    rfl
theorem kind_zero {B : Book} (hV : Vld B) (hc : ∃ f, CC B [] f) {s hr ld : Int} (h0 : 0 ≤ hr) (h1 : hr < B.tides.length) : kindB B s hr ld = 0 ↔ maybeB B s hr ld = false := by
  unfold kindB
  constructor
  · intro h
    cases hm : maybeB B s hr ld
    · rfl
    · rw [hm] at h
      cases hs : sureB B s hr ld <;> simp [hs] at h
  · intro h
    have hs : sureB B s hr ld = false := by
      cases hs : sureB B s hr ld
      · rfl
      · rw [sure_maybe hV hc h0 h1 hs] at h
        cases h
    rw [h, hs]
    rfl
theorem landsB_load {B : Book} (hk : 1 ≤ B.sink) {s ld ld' h f e : Int} (he : ld' ≤ ld) (hl : landsB B s ld h f e = true) : landsB B s ld' h f e = true := by
  simp only [landsB, Bool.and_eq_true, decide_eq_true_eq] at hl ⊢
  have : (ld' + B.sink - 1) / B.sink ≤ (ld + B.sink - 1) / B.sink := Int.ediv_le_ediv (by omega) (by omega)
  exact ⟨by omega, hl.2⟩
theorem sure_load {B : Book} (hk : 1 ≤ B.sink) {s hr ld ld' : Int} (he : ld' ≤ ld) (h : sureB B s hr ld = true) : sureB B s hr ld' = true :=
  sureB_iff.2 fun f hf x hx => landsB_load hk he (sureB_iff.1 h f hf x hx)
section
variable {B : Book} {s hr ld : Int}
theorem landsR_err {e : Int} (he : askE B true = e) (h : e ≠ 0) (q : Qs B s hr ld) : landsR B s hr ld = (0, e) := by
  have : askL B s hr ld = true := by simp [askL, q.sh, q.ho, q.lo]
  unfold landsR
  rw [this, he, if_neg h]
theorem landsR_ok (he : askE B true = 0) (q : Qs B s hr ld) : landsR B s hr ld = (kindB B s hr ld, 0) := by
  have : askL B s hr ld = true := by simp [askL, q.sh, q.ho, q.lo]
  unfold landsR
  rw [this, if_pos he]
  rfl
theorem mostR_err {e : Int} (he : askE B true = e) (h : e ≠ 0) (q : Qs B s hr ld) : mostR B s hr = (0, e) := by
  have : askM B s hr = true := by simp [askM, q.sh, q.ho]
  unfold mostR
  rw [this, he, if_neg h]
theorem mostR_ok (he : askE B true = 0) (q : Qs B s hr ld) :
    (mostR B s hr = (0, 4) ∧ ∀ x, 0 ≤ x → x ≤ 200 → sureB B s hr x = false) ∨ (∃ m, mostR B s hr = (m, 0) ∧ 0 ≤ m ∧ m ≤ 200 ∧ sureB B s hr m = true ∧ ∀ x, m < x → x ≤ 200 → sureB B s hr x = false) := by
  have hq : askM B s hr = true := by simp [askM, q.sh, q.ho]
  unfold mostR
  rw [hq, if_pos he]
  cases hf : (List.range 201).find? fun (n : Nat) => sureB B s hr (200 - (n : Int)) with
  | none =>
    left
    refine ⟨rfl, fun x h0 h1 => ?_⟩
    have := List.find?_eq_none.1 hf (200 - x).toNat (List.mem_range.2 (by omega))
    rw [show (200 : Int) - ((200 - x).toNat : Int) = x by omega] at this
    simpa using this
  | some n =>
    right
    obtain ⟨h1, h2, h3⟩ := List.find?_range_eq_some.1 hf
    have h2 := List.mem_range.1 h2
    refine ⟨200 - (n : Int), rfl, by omega, by omega, h1, fun x h4 h5 => ?_⟩
    have := h3 (200 - x).toNat (by omega)
    rw [show (200 : Int) - ((200 - x).toNat : Int) = x by omega] at this
    simpa using this
theorem firstR_err {e : Int} (he : askE B true = e) (h : e ≠ 0) (q : Qs B s hr ld) : firstR B s ld = (0, e) := by
  have : askF s ld = true := by simp [askF, q.sh, q.lo]
  unfold firstR
  rw [this, he, if_neg h]
theorem firstR_ok (he : askE B true = 0) (q : Qs B s hr ld) :
    (firstR B s ld = (0, 4) ∧ ∀ x : Int, 0 ≤ x → x < B.tides.length → sureB B s x ld = false) ∨ (∃ m, firstR B s ld = (m, 0) ∧ 0 ≤ m ∧ m < B.tides.length ∧ sureB B s m ld = true ∧ ∀ x : Int, 0 ≤ x → x < m → sureB B s x ld = false) := by
  have hq : askF s ld = true := by simp [askF, q.sh, q.lo]
  unfold firstR
  rw [hq, if_pos he]
  cases hf : (List.range B.tides.length).find? fun (h : Nat) => sureB B s h ld with
  | none =>
    left
    refine ⟨rfl, fun x h0 h1 => ?_⟩
    have := List.find?_eq_none.1 hf x.toNat (List.mem_range.2 (by omega))
    rw [Int.toNat_of_nonneg h0] at this
    simpa using this
  | some n =>
    right
    obtain ⟨h1, h2, h3⟩ := List.find?_range_eq_some.1 hf
    have h2 := List.mem_range.1 h2
    refine ⟨(n : Int), rfl, by omega, by omega, h1, fun x h4 h5 => ?_⟩
    have := h3 x.toNat (by omega)
    rw [Int.toNat_of_nonneg h4] at this
    simpa using this
theorem bothR_err {e : Int} (he : askE B true = e) (h : e ≠ 0) (q : Qs B s hr ld) : bothR B ld = ([], e) := by
  unfold bothR
  rw [q.lo, he, if_neg h]
theorem bothR_ok (he : askE B true = 0) (q : Qs B s hr ld) : bothR B ld = (bothL B ld B.tides.length, 0) := by
  unfold bothR
  rw [q.lo, if_pos he]
end
theorem mem_bothL {B : Book} {ld : Int} {k : Nat} {x : Int} : x ∈ bothL B ld k ↔ (0 ≤ x ∧ x < k) ∧ sureB B 0 x ld = true ∧ sureB B 1 x ld = true := by
  unfold bothL
  simp only [List.mem_map, List.mem_filter, List.mem_range, Bool.and_eq_true]
  constructor
  · rintro ⟨n, ⟨h1, h2, h3⟩, rfl⟩
    exact ⟨⟨by omega, by omega⟩, h2, h3⟩
  · rintro ⟨⟨h1, h2⟩, h3, h4⟩
    refine ⟨x.toNat, ⟨by omega, ?_, ?_⟩, by omega⟩
    · rw [Int.toNat_of_nonneg h1]; exact h3
    · rw [Int.toNat_of_nonneg h1]; exact h4
theorem bothL_rising (B : Book) (ld : Int) (k : Nat) : Rising k (bothL B ld k) := by
  refine ⟨?_, fun x hx => (mem_bothL.1 hx).1⟩
  unfold bothL
  rw [List.pairwise_map]
  refine List.Pairwise.imp (R := (· < ·)) (fun h => by omega) ?_
  exact List.Pairwise.filter _ List.pairwise_lt_range
/-- THE LAW OF THE GREATEST LOAD. -/
theorem most_law {B : Book} {s hr ld : Int} (hv : B.valid = true) (q : Qs B s hr ld) :
    (landsR B s hr ld = (0, 22) ∧ mostR B s hr = (0, 22)) ∨ (∃ k, landsR B s hr ld = (k, 0) ∧ k < 2 ∧ mostR B s hr = (0, 4)) ∨
    (∃ m k, mostR B s hr = (m, 0) ∧ landsR B s hr ld = (k, 0) ∧ (0 ≤ m ∧ m ≤ 200) ∧ landsR B s hr m = (2, 0) ∧ ((k = 2 ∧ ld ≤ m) ∨ (k < 2 ∧ m < ld))) := by
  have hV := valid_iff.1 hv
  rcases ask_cases hv with ⟨_, he⟩ | ⟨hc, he⟩
  · exact .inl ⟨landsR_err he (by decide) q, mostR_err he (by decide) q⟩
  · have hk := kind_range B s hr ld
    have h2 := kind_two hV hc (s := s) (ld := ld) q.h0 q.h1
    rcases mostR_ok he q with ⟨h3, h4⟩ | ⟨m, h3, h5, h6, h7, h8⟩
    · refine .inr (.inl ⟨_, landsR_ok he q, ?_, h3⟩)
      rcases Int.lt_or_le (kindB B s hr ld) 2 with h | h
      · exact h
      · have := h2.1 (by omega)
        rw [h4 ld q.l0 q.l1] at this
        cases this
    · refine .inr (.inr ⟨m, _, h3, landsR_ok he q, ⟨h5, h6⟩, ?_, ?_⟩)
      · rw [landsR_ok he (q.load h5 h6), (kind_two hV hc q.h0 q.h1).2 h7]
      · rcases Int.lt_or_le m ld with h | h
        · right
          refine ⟨?_, h⟩
          rcases Int.lt_or_le (kindB B s hr ld) 2 with h9 | h9
          · exact h9
          · have := h2.1 (by omega)
            rw [h8 ld h q.l1] at this
            cases this
        · left
          exact ⟨h2.2 (sure_load hV.k1 h h7), h⟩
end Go.Proofs.YtkbmpkdflgimmaaDoor
/- LandingMost answers true of every book and of all numbers. -/
namespace Go.Proofs.YtkbmpkdflgimmaaDoor
open Go.RowKit Go.Shelf

theorem abs_act {Q : Exit → Act → World → Prop} {e : Exit} {a : Act} {w : World} (F : World → Prop) (hF : F w) (h : ∀ w', F w' → Q e a w') : Q e a w := h w hF
theorem drewN_below {n : Nat} {W : World} (_h : n ≤ W.heap.size) (k : Nat) : Below n W (W.drewN k) := ⟨rfl, rfl, rfl, Nat.le_refl _, fun _ _ => rfl⟩
theorem mod_back (n m : Int) (hm : m ≤ 1000000) (w : World) : Calls Tryd.prog 24 #[i64 n, i64 m] w fun e w' => e = .returned (i64 (modI n m)) ∧ w' = w :=
  (mod_any n m hm w).mono fun _ _ ⟨h1, h2⟩ => ⟨h1, h2.symm⟩
set_option maxRecDepth 100000 in
set_option maxHeartbeats 4000000 in
theorem LMost_any (B : Book) (tb tq : Nat) (ta : Option Addr) (tc : Nat) (sb sq : Nat) (sa : Option Addr) (sc : Nat) (n0 n1 n2 : Int) (w : World) (hG : GA w) (hT : SpansAt w.heap.size w tb tq ta B.tides) (hS : SoundsAt w.heap.size w sb sq sa B.sounds) :
    Calls Tryd.prog 9 #[bookVal B ta tc sa sc, .agg #[i64 n0, i64 n1, i64 n2]] w (MoorPost w) := by
  have hb0 : Below w.heap.size w ((w.alloc (.cells (bookCells B ta tc sa sc) 30)).alloc (.cells #[i64 n0, i64 n1, i64 n2] 37)) := ((Below.refl _ w).alloc (Nat.le_refl _) _).alloc (by simp) _
  have hx0 : ((w.alloc (.cells (bookCells B ta tc sa sc) 30)).alloc (.cells #[i64 n0, i64 n1, i64 n2] 37)).heap[w.heap.size]? = some (.cells (bookCells B ta tc sa sc) 30 (0, 0)) := (Below.heap_alloc _ _ _ (by simp)).trans (heap_alloc_new w _)
  have hy0 : ((w.alloc (.cells (bookCells B ta tc sa sc) 30)).alloc (.cells #[i64 n0, i64 n1, i64 n2] 37)).heap[w.heap.size + 1]? = some (.cells #[i64 n0, i64 n1, i64 n2] 37 (0, 0)) := heap_alloc2_new w _ _
  have hx0l := (Array.getElem?_eq_some_iff.1 hx0).1
  have hy0l := (Array.getElem?_eq_some_iff.1 hy0).1
  have hB0 : BookV w (bookVal B ta tc sa sc) B := ⟨tb, tq, ta, tc, sb, sq, sa, sc, rfl, hT, hS⟩
  cases hv : B.valid
  · have hv := Lib.hid hv
    go_enter Tryd.func9, Tryd.ntmps9
    go_wp2_with (first | (refine ld30 rfl _ rfl _ _ rfl hx0 rfl ?_) | (go_at_call 21; refine (sound_v (hB0.below hb0)).mono ?_; rintro e w1 ⟨rfl, hb1⟩; rw [hv.out]; have ha1 := hb0.trans (hb1.mono hb0.size)) | (go_at_call 18; refine (moored_any _ (hG.below ha1)).mono ?_; rintro e w2 ⟨rfl, hb2⟩; have ha2 := ha1.trans (hb2.mono ha1.size)))
    go_ret
    exact ⟨rfl, ha2⟩
  · have hV := valid_iff.1 hv
    have h1 := hV.h1
    have h24 := hV.h24
    have hs := modI_lt (n := n0) (m := 2) (by decide)
    have hh := modI_lt (n := n1) (m := B.tides.length) (by omega)
    have hl := modI_lt (n := n2) (m := 201) (by decide)
    have q : Qs B (modI n0 2) (modI n1 B.tides.length) (modI n2 201) := ⟨hs.1, by omega, hh.1, hh.2, hl.1, by omega⟩
    have hlaw := most_law hv q
    obtain ⟨s, hs'⟩ : ∃ s, modI n0 2 = s := ⟨_, rfl⟩
    obtain ⟨hr, hh'⟩ : ∃ hr, modI n1 B.tides.length = hr := ⟨_, rfl⟩
    obtain ⟨ld, hl'⟩ : ∃ ld, modI n2 201 = ld := ⟨_, rfl⟩
    rw [hs', hh', hl'] at hlaw
    have hv := Lib.hid hv
    have M0 := fun W => mod_back n0 2 (by decide) W
    have M1 := fun W => mod_back n1 B.tides.length (by omega) W
    have M2 := fun W => mod_back n2 201 (by decide) W
    rw [hs'] at M0
    rw [hh'] at M1
    rw [hl'] at M2
    clear hs hh hl q hs' hh' hl'
    go_enter Tryd.func9, Tryd.ntmps9
    go_wp2_with (first | (refine ld30 rfl _ rfl _ _ rfl hx0 rfl ?_) | (go_at_call 21; refine (sound_v (hB0.below hb0)).mono ?_; rintro e w1 ⟨rfl, hb1⟩; rw [hv.out]; have ha1 := hb0.trans (hb1.mono hb0.size); have hx1 := (hb1.block _ hx0l).trans hx0; have hy1 := (hb1.block _ hy0l).trans hy0; have hxc := cells_of hx1; have hyc := cells_of hy1; have hxl := (Array.getElem?_eq_some_iff.1 hx1).1; have hyl := (Array.getElem?_eq_some_iff.1 hy1).1))
    go_quiet ((go_at_call 24; first | with_reducible exact Calls.quiet_of_same (M0 _) | with_reducible exact Calls.quiet_of_same (M1 _) | with_reducible exact Calls.quiet_of_same (M2 _)))
    have hG1 := hG.below ha1
    have hB1 := hB0.below ha1
    refine abs_act (fun W => Below w.heap.size w W ∧ W.heap[w.heap.size]? = some (.cells (bookCells B ta tc sa sc) 30 (0, 0)) ∧ GA W ∧ BookV W (bookVal B ta tc sa sc) B) ⟨ha1.trans (drewN_below ha1.size _), hx1, hG1.below (drewN_below (Nat.le_refl _) _), hB1.below (drewN_below (Nat.le_refl _) _)⟩ ?_
    clear hG1 hB1 ha1 hx1 hy1 hxc hyc hxl hyl hb1 hx0 hy0 hx0l hy0l hb0
    rintro w2 ⟨ha2, hx2, hG2, hB2⟩
    rcases hlaw with ⟨hl, hm⟩ | ⟨k, hl, hk, hm⟩ | ⟨m, k, hm, hl, ⟨hm0, hm1⟩, hl2, hcase⟩
    · have hl := Lib.hid hl
      have hm := Lib.hid hm
      go_wp2_with (refine ld30 rfl _ rfl _ _ rfl hx2 rfl ?_)
      refine (most_v hG2 hB2 s hr).mono ?_
      rintro e w3 ⟨rfl, hb3⟩
      rw [hm.out]
      have hx3 := (hb3.block _ (Array.getElem?_eq_some_iff.1 hx2).1).trans hx2
      have hG3 := hG2.below hb3
      have hB3 := hB2.below hb3
      have ha3 := ha2.trans (hb3.mono ha2.size)
      clear hb3 hx2 hG2 hB2 ha2
      go_wp2_with (refine ld30 rfl _ rfl _ _ rfl hx3 rfl ?_)
      refine (lands_v hG3 hB3 s hr ld).mono ?_
      rintro e w4 ⟨rfl, hb4⟩
      rw [hl.out]
      have hx4 := (hb4.block _ (Array.getElem?_eq_some_iff.1 hx3).1).trans hx3
      have hG4 := hG3.below hb4
      have hB4 := hB3.below hb4
      have ha4 := ha3.trans (hb4.mono ha3.size)
      clear hb4 hx3 hG3 hB3 ha3
      go_wp2_with (go_at_call 18; refine (moored_any _ hG4).mono ?_; rintro e w5 ⟨rfl, hb5⟩)
      go_ret
      exact ⟨rfl, ha4.trans (hb5.mono ha4.size)⟩
    · have hl := Lib.hid hl
      have hm := Lib.hid hm
      go_wp2_with (refine ld30 rfl _ rfl _ _ rfl hx2 rfl ?_)
      refine (most_v hG2 hB2 s hr).mono ?_
      rintro e w3 ⟨rfl, hb3⟩
      rw [hm.out]
      have hx3 := (hb3.block _ (Array.getElem?_eq_some_iff.1 hx2).1).trans hx2
      have hG3 := hG2.below hb3
      have hB3 := hB2.below hb3
      have ha3 := ha2.trans (hb3.mono ha2.size)
      clear hb3 hx2 hG2 hB2 ha2
      go_wp2_with (refine ld30 rfl _ rfl _ _ rfl hx3 rfl ?_)
      refine (lands_v hG3 hB3 s hr ld).mono ?_
      rintro e w4 ⟨rfl, hb4⟩
      rw [hl.out]
      have hx4 := (hb4.block _ (Array.getElem?_eq_some_iff.1 hx3).1).trans hx3
      have hG4 := hG3.below hb4
      have hB4 := hB3.below hb4
      have ha4 := ha3.trans (hb4.mono ha3.size)
      clear hb4 hx3 hG3 hB3 ha3
      go_wp2_with (go_at_call 18; refine (moored_any _ hG4).mono ?_; rintro e w5 ⟨rfl, hb5⟩)
      go_ret
      exact ⟨rfl, ha4.trans (hb5.mono ha4.size)⟩
    · have hl := Lib.hid hl
      have hm := Lib.hid hm
      have hl2 := Lib.hid hl2
      have hin := Lib.hid (inB_true hm0 hm1)
      rcases hcase with ⟨hk, hlm⟩ | ⟨hk, hlm⟩
      · obtain rfl := hk
        go_wp2_with (refine ld30 rfl _ rfl _ _ rfl hx2 rfl ?_)
        refine (most_v hG2 hB2 s hr).mono ?_
        rintro e w3 ⟨rfl, hb3⟩
        rw [hm.out]
        have hx3 := (hb3.block _ (Array.getElem?_eq_some_iff.1 hx2).1).trans hx2
        have hG3 := hG2.below hb3
        have hB3 := hB2.below hb3
        have ha3 := ha2.trans (hb3.mono ha2.size)
        clear hb3 hx2 hG2 hB2 ha2
        go_wp2_with (refine ld30 rfl _ rfl _ _ rfl hx3 rfl ?_)
        refine (lands_v hG3 hB3 s hr ld).mono ?_
        rintro e w4 ⟨rfl, hb4⟩
        rw [hl.out]
        have hx4 := (hb4.block _ (Array.getElem?_eq_some_iff.1 hx3).1).trans hx3
        have hG4 := hG3.below hb4
        have hB4 := hB3.below hb4
        have ha4 := ha3.trans (hb4.mono ha3.size)
        clear hb4 hx3 hG3 hB3 ha3
        go_wp2_with (refine ld30 rfl _ rfl _ _ rfl hx4 rfl ?_)
        refine (lands_v hG4 hB4 s hr m).mono ?_
        rintro e w5 ⟨rfl, hb5⟩
        rw [hl2.out]
        have hx5 := (hb5.block _ (Array.getElem?_eq_some_iff.1 hx4).1).trans hx4
        have hG5 := hG4.below hb5
        have hB5 := hB4.below hb5
        have ha5 := ha4.trans (hb5.mono ha4.size)
        clear hb5 hx4 hG4 hB4 ha4
        go_wp2_with (first | (go_at_call 31; refine (inside_any _ _ _ _).mono ?_; rintro e w6 ⟨rfl, rfl⟩; rw [hin.out]) | (go_at_call 18; refine (moored_any _ hG5).mono ?_; rintro e w7 ⟨rfl, hb7⟩))
        go_ret
        exact ⟨rfl, ha5.trans (hb7.mono ha5.size)⟩
      · have hk' : (k == 2) = false := by simp; omega
        have hlm' : decide (ld ≤ m) = false := by simp; omega
        go_wp2_with (refine ld30 rfl _ rfl _ _ rfl hx2 rfl ?_)
        refine (most_v hG2 hB2 s hr).mono ?_
        rintro e w3 ⟨rfl, hb3⟩
        rw [hm.out]
        have hx3 := (hb3.block _ (Array.getElem?_eq_some_iff.1 hx2).1).trans hx2
        have hG3 := hG2.below hb3
        have hB3 := hB2.below hb3
        have ha3 := ha2.trans (hb3.mono ha2.size)
        clear hb3 hx2 hG2 hB2 ha2
        go_wp2_with (refine ld30 rfl _ rfl _ _ rfl hx3 rfl ?_)
        refine (lands_v hG3 hB3 s hr ld).mono ?_
        rintro e w4 ⟨rfl, hb4⟩
        rw [hl.out]
        have hx4 := (hb4.block _ (Array.getElem?_eq_some_iff.1 hx3).1).trans hx3
        have hG4 := hG3.below hb4
        have hB4 := hB3.below hb4
        have ha4 := ha3.trans (hb4.mono ha3.size)
        clear hb4 hx3 hG3 hB3 ha3
        go_wp2_with (refine ld30 rfl _ rfl _ _ rfl hx4 rfl ?_)
        refine (lands_v hG4 hB4 s hr m).mono ?_
        rintro e w5 ⟨rfl, hb5⟩
        rw [hl2.out]
        have hx5 := (hb5.block _ (Array.getElem?_eq_some_iff.1 hx4).1).trans hx4
        have hG5 := hG4.below hb5
        have hB5 := hB4.below hb5
        have ha5 := ha4.trans (hb5.mono ha4.size)
        clear hb5 hx4 hG4 hB4 ha4
        go_wp2_with (first | (go_at_call 31; refine (inside_any _ _ _ _).mono ?_; rintro e w6 ⟨rfl, rfl⟩; rw [hin.out]) | (go_at_call 18; refine (moored_any _ hG5).mono ?_; rintro e w7 ⟨rfl, hb7⟩))
        go_ret
        exact ⟨rfl, ha5.trans (hb7.mono ha5.size)⟩
theorem LMost_v {B : Book} {v : Value} {w : World} (hG : GA w) (hB : BookV w v B) (n0 n1 n2 : Int) : Calls Tryd.prog 9 #[v, .agg #[i64 n0, i64 n1, i64 n2]] w (MoorPost w) := by
  obtain ⟨tb, tq, ta, tc, sb, sq, sa, sc, rfl, hT, hS⟩ := hB
  exact LMost_any B tb tq ta tc sb sq sa sc n0 n1 n2 w hG hT hS
end Go.Proofs.YtkbmpkdflgimmaaDoor
