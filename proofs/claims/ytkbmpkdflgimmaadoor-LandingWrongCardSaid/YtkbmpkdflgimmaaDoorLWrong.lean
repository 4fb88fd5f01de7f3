/- LandingWrong answers true of every book and any number. (Printed by genwrong.py.) -/
import Derived.Test.YtkbmpkdflgimmaaDoorAdds
namespace Go.Proofs.YtkbmpkdflgimmaaDoor
open Go.RowKit Go.Shelf

def rdWg (i : Nat) : List Nat := match i with
  | 0 => [58] | 1 => [59] | 2 => [60] | 3 => [61] | 4 => [62] | 5 => [63] | 6 => [64] | 7 => [65] | 8 => [66] | 9 => [67] | 10 => [9] | _ => []
def pureWg (i : Nat) : Bool := match i with
  | 5 => false | 9 => false | _ => true
def gWg (n : Int) (x sl sc : Nat) (sa : Option Addr) (i : Nat) (vs : List Value) (W : World) : Prop := match i with
  | 0 => vs = [i64 n]
  | 1 => vs = [.pointer (some ⟨x, 13, none⟩)]
  | 2 => vs = [.slice sa sl sc]
  | 3 => vs = [i64 sl]
  | 4 => vs = [i64 (2 ^ sl)]
  | 5 => vs = [i64 (modI n (2 ^ sl))]
  | 6 => vs = [.pointer (some ⟨x, 13, none⟩)]
  | 7 => vs = [.slice sa sl sc]
  | 8 => vs = [i64 sl]
  | 9 => ∃ v l, vs = [v] ∧ ListV W v l ∧ Rising sl l
  | 10 => ∃ v l, vs = [v] ∧ ListV W v l ∧ Rising sl l
  | _ => True
set_option maxRecDepth 100000 in
set_option maxHeartbeats 4000000 in
theorem LWrong_any (B : Book) (tb tq : Nat) (ta : Option Addr) (tc : Nat) (sb sq : Nat) (sa : Option Addr) (sc : Nat) (n : Int) (w : World) (hG : GA w) (hT : SpansAt w.heap.size w tb tq ta B.tides) (hS : SoundsAt w.heap.size w sb sq sa B.sounds) :
    Calls Tryd.prog 11 #[bookVal B ta tc sa sc, i64 n] w (MoorPost w) := by
  have ha0 : Below w.heap.size w (w.alloc (.cells (bookCells B ta tc sa sc) 30)) := (Below.refl _ w).alloc (Nat.le_refl _) _
  have hx0 : (w.alloc (.cells (bookCells B ta tc sa sc) 30)).heap[w.heap.size]? = some (.cells (bookCells B ta tc sa sc) 30 (0, 0)) := heap_alloc_new w _
  have hB00 : BookV w (bookVal B ta tc sa sc) B := ⟨tb, tq, ta, tc, sb, sq, sa, sc, rfl, hT, hS⟩
  have hB0 := hB00.below ha0
  have hG0 := hG.below ha0
  have hsl := hS.len
  clear hB00 hG hT hS
  cases hv : B.valid
  · have hw : Hid (wrongR B = ([], 20)) := Lib.hid (by simp [wrongR, hv])
    have hv := Lib.hid hv
    go_enter Tryd.func11, Tryd.ntmps11
    go_wp2_with (refine ld30 rfl _ rfl _ _ rfl hx0 rfl ?_)
    refine (wrong_v hG0 hB0).mono ?_
    rintro e w1 ⟨v, rfl, hb1, hL1⟩
    have hx1 := (hb1.block _ (Array.getElem?_eq_some_iff.1 hx0).1).trans hx0
    have hB1 := hB0.below hb1
    have hG1 := hG0.below hb1
    have ha1 := ha0.trans (hb1.mono ha0.size)
    clear hx0 hB0 hG0 ha0
    clear hb1
    rw [hw.out] at hL1 ⊢
    obtain ⟨b1, o1, a1, c1, rfl, _, _⟩ := hL1
    go_wp2_with (refine ld30 rfl _ rfl _ _ rfl hx1 rfl ?_)
    refine (sound_v hB1).mono ?_
    rintro e w2 ⟨rfl, hb2⟩
    rw [hv.out]
    have hx2 := (hb2.block _ (Array.getElem?_eq_some_iff.1 hx1).1).trans hx1
    have hB2 := hB1.below hb2
    have hG2 := hG1.below hb2
    have ha2 := ha1.trans (hb2.mono ha1.size)
    clear hx1 hB1 hG1 ha1
    clear hb2
    go_wp2_with (go_at_call 18; refine (moored_any _ hG2).mono ?_; rintro e w3 ⟨rfl, hb3⟩)
    go_ret
    exact ⟨rfl, ha2.trans (hb3.mono ha2.size)⟩
  · have hV := valid_iff.1 hv
    have hw : Hid (wrongR B = (wrongL B, 0)) := Lib.hid (by simp [wrongR, hv])
    have hr : Hid (rightR B = (okB B [], 0)) := Lib.hid (rightR_ok hv)
    obtain ⟨hris, hok, hbest⟩ := wrong_spec hV
    have hnil := wrong_nil hV
    have hless := fun l => rightR_less hV l
    have hs6 := hV.s6
    have hv := Lib.hid hv
    obtain ⟨W, hWe⟩ : ∃ W, wrongL B = W := ⟨_, rfl⟩
    rw [hWe] at hris hok hbest hnil hw
    clear hWe hV
    have hWl := rising_len hris
    have hokH := Lib.hid hok
    have hbestH := Lib.hid hbest
    have hlessH := Lib.hid hless
    clear hok hbest hless
    have hsI : (B.sounds.length : Int) ≤ 6 := by omega
    have hiq : (!((W.length : Int) == 0) == okB B []) = false := by
      rcases Nat.eq_zero_or_pos W.length with h | h
      · rw [hnil.1 h]; simp [h]
      · cases ho : okB B []
        · have h9 : ((W.length : Int) == 0) = false := by rw [beq_eq_false_iff_ne]; omega
          rw [h9]; rfl
        · have := hnil.2 ho; omega
    clear hnil
    go_enter Tryd.func11, Tryd.ntmps11
    go_wp2_with (refine ld30 rfl _ rfl _ _ rfl hx0 rfl ?_)
    refine (wrong_v hG0 hB0).mono ?_
    rintro e w1 ⟨v, rfl, hb1, hL1⟩
    have hx1 := (hb1.block _ (Array.getElem?_eq_some_iff.1 hx0).1).trans hx0
    have hB1 := hB0.below hb1
    have hG1 := hG0.below hb1
    have ha1 := ha0.trans (hb1.mono ha0.size)
    clear hx0 hB0 hG0 ha0
    clear hb1
    rw [hw.out] at hL1 ⊢
    obtain ⟨b1, o1, a1, c1, rfl, hl1, hI1⟩ := hL1
    have hL1 : ListV w1 (.slice a1 W.length c1) W := ⟨b1, o1, a1, c1, rfl, hl1, hI1⟩
    clear hI1
    go_wp2_with (refine ld30 rfl _ rfl _ _ rfl hx1 rfl ?_)
    refine (sound_v hB1).mono ?_
    rintro e w2 ⟨rfl, hb2⟩
    rw [hv.out]
    have hx2 := (hb2.block _ (Array.getElem?_eq_some_iff.1 hx1).1).trans hx1
    have hB2 := hB1.below hb2
    have hL2 := hL1.below hb2
    have hG2 := hG1.below hb2
    have ha2 := ha1.trans (hb2.mono ha1.size)
    clear hx1 hB1 hL1 hG1 ha1
    clear hb2
    go_wp2_with (refine ld30 rfl _ rfl _ _ rfl hx2 rfl ?_)
    refine (right_v hG2 hB2).mono ?_
    rintro e w3 ⟨rfl, hb3⟩
    rw [hr.out]
    have hx3 := (hb3.block _ (Array.getElem?_eq_some_iff.1 hx2).1).trans hx2
    have hB3 := hB2.below hb3
    have hL3 := hL2.below hb3
    have hG3 := hG2.below hb3
    have ha3 := ha2.trans (hb3.mono ha2.size)
    clear hx2 hB2 hL2 hG2 ha2
    clear hb3
    have hxc3 := cells_of hx3
    have hxl3 := (Array.getElem?_eq_some_iff.1 hx3).1
    go_wp2_with (fail)
    refine (climbs_v hL3 hris (by omega)).mono ?_
    rintro e w4 ⟨rfl, hb4⟩
    have hx4 := (hb4.block _ (Array.getElem?_eq_some_iff.1 hx3).1).trans hx3
    have hB4 := hB3.below hb4
    have hL4 := hL3.below hb4
    have hG4 := hG3.below hb4
    have ha4 := ha3.trans (hb4.mono ha3.size)
    clear hx3 hB3 hL3 hG3 ha3
    clear hb4
    clear hxc3 hxl3
    have hxc4 := cells_of hx4
    have hxl4 := (Array.getElem?_eq_some_iff.1 hx4).1
    go_wp2_with fail
    have hpow : (2 : Int) ^ B.sounds.length ≤ 1000000 := by
      rcases (by omega : B.sounds.length = 0 ∨ B.sounds.length = 1 ∨ B.sounds.length = 2 ∨ B.sounds.length = 3 ∨ B.sounds.length = 4 ∨ B.sounds.length = 5 ∨ B.sounds.length = 6) with h | h | h | h | h | h | h <;> rw [h] <;> decide
    have hshl : IntKind.i64.wrap (2 ^ B.sounds.length) = 2 ^ B.sounds.length := by
      rcases (by omega : B.sounds.length = 0 ∨ B.sounds.length = 1 ∨ B.sounds.length = 2 ∨ B.sounds.length = 3 ∨ B.sounds.length = 4 ∨ B.sounds.length = 5 ∨ B.sounds.length = 6) with h | h | h | h | h | h | h <;> rw [h] <;> decide
    refine rg_region rdWg pureWg (gWg n w.heap.size B.sounds.length sc sa) BR (by kernel_rfl) (by kernel_rfl) (fun n => BR.drawn _ n) BR.refl (fun _ _ _ => BR.trans) ?_ ?_ ?_
    · intro i hi vs wA wB hG hR
      match i, hi, hG with
      | 0, _, hG => exact hG
      | 1, _, hG => exact hG
      | 2, _, hG => exact hG
      | 3, _, hG => exact hG
      | 4, _, hG => exact hG
      | 5, _, hG => exact hG
      | 6, _, hG => exact hG
      | 7, _, hG => exact hG
      | 8, _, hG => exact hG
      | 9, _, hG => obtain ⟨v, l, h1, h2, h3⟩ := hG; exact ⟨v, l, h1, h2.below hR, h3⟩
      | 10, _, hG => obtain ⟨v, l, h1, h2, h3⟩ := hG; exact ⟨v, l, h1, h2.below hR, h3⟩
      | _ + 11, _, _ => trivial
    · intro i op ho act wA hR hF hD
      have sz : act.tmps.size = 104 := hF.size
      match i, ho, hD with
      | 0, ho, hD =>
        cases ho
        have e1 := slot_tmps (show slotOf act 1 = i64 n from hF.slot 1 (by kernel_rfl))
        refine rgw_val (wanted_none rfl) (i64 n) (by simp [go_sem, e1]) (BR.refl _) ?_
        exact congrArg (fun v => [v]) (slotOf_same act 58 _ (by omega))
      | 1, ho, hD =>
        cases ho
        have e2 := slot_tmps (show slotOf act 2 = .pointer (some ⟨w.heap.size, 0, none⟩) from hF.slot 2 (by kernel_rfl))
        refine rgw_val (wanted_none rfl) (.pointer (some ⟨w.heap.size, 13, none⟩)) (by simp [go_sem, e2]) (BR.refl _) ?_
        exact congrArg (fun v => [v]) (slotOf_same act 59 _ (by omega))
      | 2, ho, hD =>
        cases ho
        have e59 := slot_tmps (List.cons.inj (hD 1 (by decide))).1
        have hxA := (Below.block hR _ hxl4).trans hx4
        have hxc := cells_of hxA
        refine rgw_val (wanted_none rfl) (.slice sa B.sounds.length sc) (by simp [go_sem, e59, hxc]) (BR.refl _) ?_
        exact congrArg (fun v => [v]) (slotOf_same act 60 _ (by omega))
      | 3, ho, hD =>
        cases ho
        have e60 := slot_tmps (List.cons.inj (hD 2 (by decide))).1
        refine rgw_val (wanted_none rfl) (i64 B.sounds.length) (by simp [go_sem, e60]) (BR.refl _) ?_
        exact congrArg (fun v => [v]) (slotOf_same act 61 _ (by omega))
      | 4, ho, hD =>
        cases ho
        have e61 := slot_tmps (List.cons.inj (hD 3 (by decide))).1
        refine rgw_val (wanted_none rfl) (i64 (2 ^ B.sounds.length)) (by simp [go_sem, e61, hshl]) (BR.refl _) ?_
        exact congrArg (fun v => [v]) (slotOf_same act 62 _ (by omega))
      | 5, ho, hD =>
        cases ho
        have e58 := slot_tmps (List.cons.inj (hD 0 (by decide))).1
        have e62 := slot_tmps (List.cons.inj (hD 4 (by decide))).1
        refine rgw_call (wanted_none rfl) 24 #[i64 n, i64 (2 ^ B.sounds.length)] (by simp [go_sem, e58, e62]) rfl ?_
        refine (mod_back n (2 ^ B.sounds.length) hpow _).mono ?_
        rintro e wB ⟨rfl, rfl⟩
        exact ⟨_, rfl, BR.refl _, congrArg (fun v => [v]) (slotOf_same act 63 _ (by omega))⟩
      | 6, ho, hD =>
        cases ho
        have e2 := slot_tmps (show slotOf act 2 = .pointer (some ⟨w.heap.size, 0, none⟩) from hF.slot 2 (by kernel_rfl))
        refine rgw_val (wanted_none rfl) (.pointer (some ⟨w.heap.size, 13, none⟩)) (by simp [go_sem, e2]) (BR.refl _) ?_
        exact congrArg (fun v => [v]) (slotOf_same act 64 _ (by omega))
      | 7, ho, hD =>
        cases ho
        have e64 := slot_tmps (List.cons.inj (hD 6 (by decide))).1
        have hxA := (Below.block hR _ hxl4).trans hx4
        have hxc := cells_of hxA
        refine rgw_val (wanted_none rfl) (.slice sa B.sounds.length sc) (by simp [go_sem, e64, hxc]) (BR.refl _) ?_
        exact congrArg (fun v => [v]) (slotOf_same act 65 _ (by omega))
      | 8, ho, hD =>
        cases ho
        have e65 := slot_tmps (List.cons.inj (hD 7 (by decide))).1
        refine rgw_val (wanted_none rfl) (i64 B.sounds.length) (by simp [go_sem, e65]) (BR.refl _) ?_
        exact congrArg (fun v => [v]) (slotOf_same act 66 _ (by omega))
      | 9, ho, hD =>
        cases ho
        have e63 := slot_tmps (List.cons.inj (hD 5 (by decide))).1
        have e66 := slot_tmps (List.cons.inj (hD 8 (by decide))).1
        refine rgw_call (wanted_none rfl) 45 #[i64 (modI n (2 ^ B.sounds.length)), i64 B.sounds.length] (by simp [go_sem, e63, e66]) rfl ?_
        refine (members_any _ B.sounds.length _ (by omega)).mono ?_
        rintro e wB ⟨v, l, rfl, hb, hLm, hrm⟩
        exact ⟨v, rfl, hb, v, l, congrArg (fun v => [v]) (slotOf_same act 67 _ (by omega)), hLm, hrm⟩
      | 10, ho, hD =>
        cases ho
        obtain ⟨v, l, d67, hLm, hrm⟩ := hD 9 (by decide)
        have e67 := slot_tmps (List.cons.inj d67).1
        refine rgw_val (wanted_none rfl) v (by simp [go_sem, e67]) (BR.refl _) ?_
        exact ⟨v, l, congrArg (fun v => [v]) (slotOf_same act 9 _ (by omega)), hLm, hrm⟩
      | _ + 11, ho, _ => cases ho
    · intro act wA hR hF hA
      have f1 : slotOf act 1 = i64 n := hF.slot 1 (by kernel_rfl)
      have f2 : slotOf act 2 = .pointer (some ⟨w.heap.size, 0, none⟩) := hF.slot 2 (by kernel_rfl)
      have f4 : slotOf act 4 = .bool false := hF.slot 4 (by kernel_rfl)
      have f5 : slotOf act 5 = .slice a1 W.length c1 := hF.slot 5 (by kernel_rfl)
      have f6 : slotOf act 6 = i64 0 := hF.slot 6 (by kernel_rfl)
      have f7 : slotOf act 7 = .bool (okB B []) := hF.slot 7 (by kernel_rfl)
      have f8 : slotOf act 8 = i64 0 := hF.slot 8 (by kernel_rfl)
      obtain ⟨ov, other, d9, hOL, hOr⟩ := hA 10 (by decide)
      have f9 : slotOf act 9 = ov := (List.cons.inj d9).1
      have f58 : slotOf act 58 = i64 n := (List.cons.inj (hA 0 (by decide))).1
      have f59 : slotOf act 59 = .pointer (some ⟨w.heap.size, 13, none⟩) := (List.cons.inj (hA 1 (by decide))).1
      have f60 : slotOf act 60 = .slice sa B.sounds.length sc := (List.cons.inj (hA 2 (by decide))).1
      have f61 : slotOf act 61 = i64 B.sounds.length := (List.cons.inj (hA 3 (by decide))).1
      have f62 : slotOf act 62 = i64 (2 ^ B.sounds.length) := (List.cons.inj (hA 4 (by decide))).1
      have f63 : slotOf act 63 = i64 (modI n (2 ^ B.sounds.length)) := (List.cons.inj (hA 5 (by decide))).1
      have f64 : slotOf act 64 = .pointer (some ⟨w.heap.size, 13, none⟩) := (List.cons.inj (hA 6 (by decide))).1
      have f65 : slotOf act 65 = .slice sa B.sounds.length sc := (List.cons.inj (hA 7 (by decide))).1
      have f66 : slotOf act 66 = i64 B.sounds.length := (List.cons.inj (hA 8 (by decide))).1
      rw [act_eta act 104 hF.size hF.defers]
      simp only [show List.range 104 = [0, 1, 2, 3, 4, 5, 6, 7, 8, 9, 10, 11, 12, 13, 14, 15, 16, 17, 18, 19, 20, 21, 22, 23, 24, 25, 26, 27, 28, 29, 30, 31, 32, 33, 34, 35, 36, 37, 38, 39, 40, 41, 42, 43, 44, 45, 46, 47, 48, 49, 50, 51, 52, 53, 54, 55, 56, 57, 58, 59, 60, 61, 62, 63, 64, 65, 66, 67, 68, 69, 70, 71, 72, 73, 74, 75, 76, 77, 78, 79, 80, 81, 82, 83, 84, 85, 86, 87, 88, 89, 90, 91, 92, 93, 94, 95, 96, 97, 98, 99, 100, 101, 102, 103] from rfl, List.map_cons, List.map_nil, f1, f2, f4, f5, f6, f7, f8, f9, f58, f59, f60, f61, f62, f63, f64, f65, f66]
      clear hA hF f1 f2 f4 f5 f6 f7 f8 f9 f58 f59 f60 f61 f62 f63 f64 f65 f66
      have hx5 := (Below.block hR _ hxl4).trans hx4
      have hB5 := hB4.below hR
      have hL5 := hL4.below hR
      have hG5 := hG4.below hR
      have ha5 := ha4.trans (Below.mono hR ha4.size)
      have hO5 := hOL
      clear hR hOL hx4 hB4 hL4 hG4 ha4 hxc4 hxl4 hpow hshl
      go_wp2_with (refine ld30 rfl _ rfl _ _ rfl hx5 rfl ?_)
      refine (without_v hB5 hL5 (by omega)).mono ?_
      rintro e w6 ⟨v6, rfl, hb6, hR6⟩
      have hx6 := (hb6.block _ (Array.getElem?_eq_some_iff.1 hx5).1).trans hx5
      have hB6 := hB5.below hb6
      have hL6 := hL5.below hb6
      have hO6 := hO5.below hb6
      have hG6 := hG5.below hb6
      have ha6 := ha5.trans (hb6.mono ha5.size)
      clear hx5 hB5 hL5 hO5 hG5 ha5
      clear hb6
      go_wp2_with (fail)
      refine (right_v hG6 hR6).mono ?_
      rintro e w7 ⟨rfl, hb7⟩
      have hx7 := (hb7.block _ (Array.getElem?_eq_some_iff.1 hx6).1).trans hx6
      have hB7 := hB6.below hb7
      have hL7 := hL6.below hb7
      have hO7 := hO6.below hb7
      have hR7 := hR6.below hb7
      have hG7 := hG6.below hb7
      have ha7 := ha6.trans (hb7.mono ha6.size)
      clear hx6 hB6 hL6 hO6 hR6 hG6 ha6
      clear hb7
      rw [hlessH.out W, hokH.out]
      clear hR7
      go_wp2_with (refine ld30 rfl _ rfl _ _ rfl hx7 rfl ?_)
      refine (without_v hB7 hO7 (by omega)).mono ?_
      rintro e w8 ⟨v8, rfl, hb8, hR8⟩
      have hx8 := (hb8.block _ (Array.getElem?_eq_some_iff.1 hx7).1).trans hx7
      have hB8 := hB7.below hb8
      have hL8 := hL7.below hb8
      have hO8 := hO7.below hb8
      have hG8 := hG7.below hb8
      have ha8 := ha7.trans (hb8.mono ha7.size)
      clear hx7 hB7 hL7 hO7 hG7 ha7
      clear hb8
      go_wp2_with (fail)
      refine (right_v hG8 hR8).mono ?_
      rintro e w9 ⟨rfl, hb9⟩
      have hx9 := (hb9.block _ (Array.getElem?_eq_some_iff.1 hx8).1).trans hx8
      have hB9 := hB8.below hb9
      have hL9 := hL8.below hb9
      have hO9 := hO8.below hb9
      have hR9 := hR8.below hb9
      have hG9 := hG8.below hb9
      have ha9 := ha8.trans (hb9.mono ha8.size)
      clear hx8 hB8 hL8 hO8 hR8 hG8 ha8
      clear hb9
      rw [hlessH.out other]
      have hbt : betterB other W = true → okB B other = false := fun h => hbestH.out other hOr h
      have hbt := Lib.hid hbt
      obtain ⟨bo, hbo⟩ : ∃ bo, okB B other = bo := ⟨_, rfl⟩
      obtain ⟨bb, hbb⟩ : ∃ bb, betterB other W = bb := ⟨_, rfl⟩
      have himp : bb = true → bo = false := fun h => by rw [← hbo]; exact hbt.out (hbb.trans h)
      rw [hbo]
      have hbb := Lib.hid hbb
      clear hbo hbt
      cases bb
      · go_wp2_with (first | (go_at_call 47; refine (better_v hO9 hL9).mono ?_; rintro e w10 ⟨rfl, hb10⟩; rw [hbb.out]) | (go_at_call 18; refine (moored_any _ (hG9.below hb10)).mono ?_; rintro e w11 ⟨rfl, hb11⟩))
        go_ret
        exact ⟨rfl, (ha9.trans (hb10.mono ha9.size)).trans (hb11.mono (Nat.le_trans ha9.size hb10.size))⟩
      · obtain rfl := himp rfl
        go_wp2_with (first | (go_at_call 47; refine (better_v hO9 hL9).mono ?_; rintro e w10 ⟨rfl, hb10⟩; rw [hbb.out]) | (go_at_call 18; refine (moored_any _ (hG9.below hb10)).mono ?_; rintro e w11 ⟨rfl, hb11⟩))
        go_ret
        exact ⟨rfl, (ha9.trans (hb10.mono ha9.size)).trans (hb11.mono (Nat.le_trans ha9.size hb10.size))⟩
theorem LWrong_v {B : Book} {v : Value} {w : World} (hG : GA w) (hB : BookV w v B) (n : Int) : Calls Tryd.prog 11 #[v, i64 n] w (MoorPost w) := by
  obtain ⟨tb, tq, ta, tc, sb, sq, sa, sc, rfl, hT, hS⟩ := hB
  exact LWrong_any B tb tq ta tc sb sq sa sc n w hG hT hS
end Go.Proofs.YtkbmpkdflgimmaaDoor
