/- Help3, Pure4, Pure5 in one text. (Printed by merge.py.) -/
import Derived.Test.YtkbmpkdflgimmaaDoorS7
/- Contracts of At and Climbs. -/
namespace Go.Proofs.YtkbmpkdflgimmaaDoor
open Go.RowKit Go.Shelf

set_option maxRecDepth 100000 in
set_option maxHeartbeats 1000000 in
theorem at_any (n b o : Nat) (a : Option Addr) (c : Nat) (l : List Int) (x : Int) (w : World) (hl : IntsAt n w b o a l) :
    Calls Tryd.prog 44 #[.slice a l.length c, i64 x] w fun e w' => e = .returned (i64 (idxI l x)) ∧ w = w' := by
  have hlen := hl.len
  go_enter Tryd.func44, Tryd.ntmps44
  go_wp2_with fail
  go_loop [5] (fun i => ∃ k : Nat, k ≤ l.length ∧ i = .int .i64 k ∧ Hid (∀ j (h : j < l.length), j < k → l[j] ≠ x)) (fun i => l.length - (intOf i).toNat)
  case atStart => exact ⟨0, Nat.zero_le _, rfl, fun j _ h => by omega⟩
  case round =>
    obtain ⟨k, hk, rfl, hall⟩ := hrel
    by_cases hlt : k < l.length
    · have hidx := idx40 (n := l.length) (c := c) (k := k) w (hl.at_ (ne_nil_of_lt hlt)) hlt
      have hc := hl.cell k hlt
      by_cases he : l[k] = x
      · have fin : Hid (idxI l x = k) := by
          show _ = _
          have : l.findIdx? (· == x) = some k := by
            rw [List.findIdx?_eq_some_iff_getElem]
            exact ⟨hlt, by simp [he], fun j hj => by simpa using hall.out j (by omega) hj⟩
          simp [idxI, this]
        have he' : ((l[k] == x) = true) := by simp [he]
        clear he
        go_wp2_with fail
        go_ret
        exact ⟨by have h := fin.out; rw [h]; rfl, rfl⟩
      · have he' : ((l[k] == x) = false) := by simp [he]
        have hnx : Hid (∀ j (h : j < l.length), j < k + 1 → l[j] ≠ x) := fun j h hj => by
          rcases Nat.lt_or_ge j k with h' | h'
          · exact hall.out j h h'
          · obtain rfl : j = k := by omega
            exact he
        clear he
        go_wp2_with fail
        go_round
        case rel => exact ⟨k + 1, by omega, by go_num, hnx⟩
        case measure => simp [intOf]; omega
    · have fin : Hid (idxI l x = -1) := by
        show _ = _
        have : l.findIdx? (· == x) = none := by
          rw [List.findIdx?_eq_none_iff]
          intro y hy
          obtain ⟨j, h, rfl⟩ := List.getElem_of_mem hy
          simpa using hall.out j h (by omega)
        simp [idxI, this]
      go_wp2_with fail
      go_ret
      exact ⟨by rw [fin.out]; rfl, rfl⟩
theorem at_v {W : World} {v : Value} {l : List Int} (h : ListV W v l) (x : Int) : Calls Tryd.prog 44 #[v, i64 x] W fun e w' => e = .returned (i64 (idxI l x)) ∧ W = w' := by
  obtain ⟨b, o, a, c, rfl, _, hI⟩ := h
  exact at_any W.heap.size b o a c l x W hI
theorem idxI_mem (l : List Int) (x : Int) : 0 ≤ idxI l x ↔ x ∈ l := by
  have := idxI_nonneg l x
  rw [← List.contains_iff_mem, ← this, decide_eq_true_eq]
def rdClZ (i : Nat) : List Nat := match i with
  | 0 => [12] | 1 => [13] | 2 => [14] | 3 => [15] | 4 => [16] | 5 => [17] | 6 => [18] | 7 => [19] | 8 => [20] | 9 => [21] | 10 => [22] | 11 => [23] | 12 => [24] | 13 => [25] | 14 => [26] | 15 => [27] | 16 => [28] | 17 => [29] | 18 => [30] | 19 => [31] | 20 => [32] | 21 => [33] | 22 => [34] | 23 => [35] | _ => []
def pureClZ (i : Nat) : Bool := match i with
  | 6 => false | _ => true
def gClZ (b o : Nat) (a : Option Addr) (c m k : Nat) (l : List Int) (hlt : k < l.length) (i : Nat) (vs : List Value) (_ : World) : Prop := match i with
  | 0 => vs = [.slice a l.length c]
  | 1 => vs = [i64 k]
  | 2 => vs = [.pointer (some ⟨b, o + k, none⟩)]
  | 3 => vs = [i64 l[k]]
  | 4 => vs = [i64 m]
  | 5 => vs = [i64 ((m : Int) - 1)]
  | 6 => vs = [.bool true]
  | 7 => vs = [.bool false]
  | 8 => vs = [.bool false]
  | 9 => vs = [i64 k]
  | 10 => vs = [.bool false]
  | 11 => vs = [.bool false]
  | 12 => True
  | 13 => True
  | 14 => True
  | 15 => True
  | 16 => True
  | 17 => True
  | 18 => True
  | 19 => True
  | 20 => True
  | 21 => True
  | 22 => vs = [.bool false]
  | 23 => vs = [.bool false]
  | _ => True
def rdClP (i : Nat) : List Nat := match i with
  | 0 => [12] | 1 => [13] | 2 => [14] | 3 => [15] | 4 => [16] | 5 => [17] | 6 => [18] | 7 => [19] | 8 => [20] | 9 => [21] | 10 => [22] | 11 => [23] | 12 => [24] | 13 => [25] | 14 => [26] | 15 => [27] | 16 => [28] | 17 => [29] | 18 => [30] | 19 => [31] | 20 => [32] | 21 => [33] | 22 => [34] | 23 => [35] | _ => []
def pureClP (i : Nat) : Bool := match i with
  | 6 => false | _ => true
def gClP (b o : Nat) (a : Option Addr) (c m k : Nat) (l : List Int) (hlt : k < l.length) (i : Nat) (vs : List Value) (_ : World) : Prop := match i with
  | 0 => vs = [.slice a l.length c]
  | 1 => vs = [i64 k]
  | 2 => vs = [.pointer (some ⟨b, o + k, none⟩)]
  | 3 => vs = [i64 l[k]]
  | 4 => vs = [i64 m]
  | 5 => vs = [i64 ((m : Int) - 1)]
  | 6 => vs = [.bool true]
  | 7 => vs = [.bool false]
  | 8 => vs = [.bool false]
  | 9 => vs = [i64 k]
  | 10 => vs = [.bool true]
  | 11 => vs = [.bool true]
  | 12 => vs = [.slice a l.length c]
  | 13 => vs = [i64 k]
  | 14 => vs = [.pointer (some ⟨b, o + k, none⟩)]
  | 15 => vs = [i64 l[k]]
  | 16 => vs = [.slice a l.length c]
  | 17 => vs = [i64 k]
  | 18 => vs = [i64 ((k : Int) - 1)]
  | 19 => vs = [.pointer (some ⟨b, o + (k - 1), none⟩)]
  | 20 => vs = [i64 (l[k - 1]'(by omega))]
  | 21 => vs = [.bool false]
  | 22 => vs = [.bool false]
  | 23 => vs = [.bool false]
  | _ => True
set_option maxRecDepth 100000 in
set_option maxHeartbeats 4000000 in
theorem climbs_any (n b o : Nat) (a : Option Addr) (c m : Nat) (l : List Int) (w : World) (hn : n ≤ w.heap.size) (hl : IntsAt n w b o a l) (hr : Rising m l) (hm : m ≤ 1000) :
    Calls Tryd.prog 36 #[.slice a l.length c, i64 m] w (MoorPost w) := by
  have hlen := hl.len
  go_enter Tryd.func36, Tryd.ntmps36
  go_wp2_with fail
  go_loopw [5] (fun i wr => ∃ k : Nat, k ≤ l.length ∧ i = .int .i64 k ∧ Below w.heap.size w wr) (fun i _ => l.length - (intOf i).toNat)
  case atStart => exact ⟨0, Nat.zero_le _, rfl, Below.refl _ _⟩
  case round =>
    obtain ⟨k, hk, rfl, hbw⟩ := hrel
    by_cases hlt : k < l.length
    · have hl1 := hl.same ((Same.of_below hbw).mono hn)
      have hi1 : ∀ W, (Instr.indexAt 40 (.slice a l.length c) (.int .i64 (k : Int))).run Tryd.prog W = .ok (.pointer (some ⟨b, o + k, none⟩)) W := fun W => idx40 W (hl1.at_ (ne_nil_of_lt hlt)) hlt
      have hc1 := hl1.cell k hlt
      have hin := Lib.hid (inB_true (hr.2 _ (List.getElem_mem hlt)).1 (show l[k] ≤ (m : Int) - 1 by have := (hr.2 _ (List.getElem_mem hlt)).2; omega))
      have hw1 : -9223372036854775808 ≤ (m : Int) - 1 := by omega
      have hw2 : (m : Int) - 1 ≤ 9223372036854775807 := by omega
      rcases Nat.eq_zero_or_pos k with h0 | h0
      · have hk0 : ¬ 0 < k := by omega
        have h0 := Lib.hid h0
        go_wp2_with fail
        refine rg_region rdClZ pureClZ (gClZ b o a c m k l hlt) BR (by kernel_rfl) (by kernel_rfl) (fun n => BR.drawn _ n) BR.refl (fun _ _ _ => BR.trans) ?_ ?_ ?_
        · intro i hi vs wA wB hG hR
          match i, hi, hG with
          | 0, _, hG => exact hG
          | 1, _, hG => exact hG
          | 2, _, hG => exact hG
          | 3, _, hG => exact hG
          | 4, _, hG => exact hG
          | 5, _, hG => exact hG
          | 6, _, hG => exact hG
          | 7, _, hG => exact hG
          | 8, _, hG => exact hG
          | 9, _, hG => exact hG
          | 10, _, hG => exact hG
          | 11, _, hG => exact hG
          | 12, _, _ => trivial
          | 13, _, _ => trivial
          | 14, _, _ => trivial
          | 15, _, _ => trivial
          | 16, _, _ => trivial
          | 17, _, _ => trivial
          | 18, _, _ => trivial
          | 19, _, _ => trivial
          | 20, _, _ => trivial
          | 21, _, _ => trivial
          | 22, _, hG => exact hG
          | 23, _, hG => exact hG
          | _ + 24, _, _ => trivial
        · intro i op ho act wA hR hF hD
          have sz : act.tmps.size = 36 := hF.size
          match i, ho, hD with
          | 0, ho, hD =>
            cases ho
            have e0 := slot_tmps (show slotOf act 0 = .slice a l.length c from hF.slot 0 (by kernel_rfl))
            refine rgw_val (wanted_none rfl) (.slice a l.length c) (by simp [go_sem, e0]) (BR.refl _) ?_
            exact congrArg (fun v => [v]) (slotOf_same act 12 _ (by omega))
          | 1, ho, hD =>
            cases ho
            have e5 := slot_tmps (show slotOf act 5 = i64 k from hF.slot 5 (by kernel_rfl))
            refine rgw_val (wanted_none rfl) (i64 k) (by simp [go_sem, e5]) (BR.refl _) ?_
            exact congrArg (fun v => [v]) (slotOf_same act 13 _ (by omega))
          | 2, ho, hD =>
            cases ho
            have e12 := slot_tmps (List.cons.inj (hD 0 (by decide))).1
            have e13 := slot_tmps (List.cons.inj (hD 1 (by decide))).1
            refine rgw_val (wanted_none rfl) (.pointer (some ⟨b, o + k, none⟩)) (by simp [go_sem, e12, e13, hi1]) (BR.refl _) ?_
            exact congrArg (fun v => [v]) (slotOf_same act 14 _ (by omega))
          | 3, ho, hD =>
            cases ho
            have e14 := slot_tmps (List.cons.inj (hD 2 (by decide))).1
            have hlA := hl1.same (Same.mono (Same.of_below hR) (Nat.le_trans hn hbw.size))
            have hcA := hlA.cell k hlt
            refine rgw_val (wanted_none rfl) (i64 l[k]) (by simp [go_sem, e14, hcA]) (BR.refl _) ?_
            exact congrArg (fun v => [v]) (slotOf_same act 15 _ (by omega))
          | 4, ho, hD =>
            cases ho
            have e1 := slot_tmps (show slotOf act 1 = i64 m from hF.slot 1 (by kernel_rfl))
            refine rgw_val (wanted_none rfl) (i64 m) (by simp [go_sem, e1]) (BR.refl _) ?_
            exact congrArg (fun v => [v]) (slotOf_same act 16 _ (by omega))
          | 5, ho, hD =>
            cases ho
            have e16 := slot_tmps (List.cons.inj (hD 4 (by decide))).1
            refine rgw_val (wanted_none rfl) (i64 ((m : Int) - 1)) (by simp [go_sem, e16, wrap_fit hw1 hw2]) (BR.refl _) ?_
            exact congrArg (fun v => [v]) (slotOf_same act 17 _ (by omega))
          | 6, ho, hD =>
            cases ho
            have e15 := slot_tmps (List.cons.inj (hD 3 (by decide))).1
            have e17 := slot_tmps (List.cons.inj (hD 5 (by decide))).1
            refine rgw_call (wanted_none rfl) 31 #[i64 l[k], i64 0, i64 ((m : Int) - 1)] (by simp [go_sem, e15, e17]) rfl ?_
            refine (inside_any _ _ _ _).mono ?_
            rintro e wB ⟨rfl, rfl⟩
            exact ⟨_, rfl, BR.refl _, congrArg (fun v => [v]) (by rw [hin.out]; exact slotOf_same act 18 _ (by omega))⟩
          | 7, ho, hD =>
            cases ho
            have e18 := slot_tmps (List.cons.inj (hD 6 (by decide))).1
            refine rgw_val (wanted_none rfl) (.bool false) (by simp [go_sem, e18]) (BR.refl _) ?_
            exact congrArg (fun v => [v]) (slotOf_same act 19 _ (by omega))
          | 8, ho, hD =>
            cases ho
            have e19 := slot_tmps (List.cons.inj (hD 7 (by decide))).1
            refine rgw_val (wanted_none rfl) (.bool false) (by simp [go_sem, e19]) (BR.refl _) ?_
            exact congrArg (fun v => [v]) (slotOf_same act 20 _ (by omega))
          | 9, ho, hD =>
            cases ho
            have dj : slotOf act 20 = .bool false := (List.cons.inj (hD 8 (by decide))).1
            have e5 := slot_tmps (show slotOf act 5 = i64 k from hF.slot 5 (by kernel_rfl))
            refine rgw_val (by rw [wanted_of (d := 20) rfl rfl dj]; rfl) (i64 k) (by simp [go_sem, e5]) (BR.refl _) ?_
            exact congrArg (fun v => [v]) (slotOf_same act 21 _ (by omega))
          | 10, ho, hD =>
            cases ho
            have dj : slotOf act 20 = .bool false := (List.cons.inj (hD 8 (by decide))).1
            have e21 := slot_tmps (List.cons.inj (hD 9 (by decide))).1
            refine rgw_val (by rw [wanted_of (d := 20) rfl rfl dj]; rfl) (.bool false) (by simp [go_sem, e21, hk0]) (BR.refl _) ?_
            exact congrArg (fun v => [v]) (slotOf_same act 22 _ (by omega))
          | 11, ho, hD =>
            cases ho
            have dj : slotOf act 20 = .bool false := (List.cons.inj (hD 8 (by decide))).1
            have e22 := slot_tmps (List.cons.inj (hD 10 (by decide))).1
            refine rgw_val (by rw [wanted_of (d := 20) rfl rfl dj]; rfl) (.bool false) (by simp [go_sem, e22]) (BR.refl _) ?_
            exact congrArg (fun v => [v]) (slotOf_same act 23 _ (by omega))
          | 12, ho, hD =>
            cases ho
            have dj : slotOf act 23 = .bool false := (List.cons.inj (hD 11 (by decide))).1
            refine rgw_skip (by rw [wanted_of (d := 23) rfl rfl dj]; rfl) ?_
            trivial
          | 13, ho, hD =>
            cases ho
            have dj : slotOf act 23 = .bool false := (List.cons.inj (hD 11 (by decide))).1
            refine rgw_skip (by rw [wanted_of (d := 23) rfl rfl dj]; rfl) ?_
            trivial
          | 14, ho, hD =>
            cases ho
            have dj : slotOf act 23 = .bool false := (List.cons.inj (hD 11 (by decide))).1
            refine rgw_skip (by rw [wanted_of (d := 23) rfl rfl dj]; rfl) ?_
            trivial
          | 15, ho, hD =>
            cases ho
            have dj : slotOf act 23 = .bool false := (List.cons.inj (hD 11 (by decide))).1
            refine rgw_skip (by rw [wanted_of (d := 23) rfl rfl dj]; rfl) ?_
            trivial
          | 16, ho, hD =>
            cases ho
            have dj : slotOf act 23 = .bool false := (List.cons.inj (hD 11 (by decide))).1
            refine rgw_skip (by rw [wanted_of (d := 23) rfl rfl dj]; rfl) ?_
            trivial
          | 17, ho, hD =>
            cases ho
            have dj : slotOf act 23 = .bool false := (List.cons.inj (hD 11 (by decide))).1
            refine rgw_skip (by rw [wanted_of (d := 23) rfl rfl dj]; rfl) ?_
            trivial
          | 18, ho, hD =>
            cases ho
            have dj : slotOf act 23 = .bool false := (List.cons.inj (hD 11 (by decide))).1
            refine rgw_skip (by rw [wanted_of (d := 23) rfl rfl dj]; rfl) ?_
            trivial
          | 19, ho, hD =>
            cases ho
            have dj : slotOf act 23 = .bool false := (List.cons.inj (hD 11 (by decide))).1
            refine rgw_skip (by rw [wanted_of (d := 23) rfl rfl dj]; rfl) ?_
            trivial
          | 20, ho, hD =>
            cases ho
            have dj : slotOf act 23 = .bool false := (List.cons.inj (hD 11 (by decide))).1
            refine rgw_skip (by rw [wanted_of (d := 23) rfl rfl dj]; rfl) ?_
            trivial
          | 21, ho, hD =>
            cases ho
            have dj : slotOf act 23 = .bool false := (List.cons.inj (hD 11 (by decide))).1
            refine rgw_skip (by rw [wanted_of (d := 23) rfl rfl dj]; rfl) ?_
            trivial
          | 22, ho, hD =>
            cases ho
            have dj : slotOf act 20 = .bool false := (List.cons.inj (hD 8 (by decide))).1
            have e23 := slot_tmps (List.cons.inj (hD 11 (by decide))).1
            refine rgw_val (by rw [wanted_of (d := 20) rfl rfl dj]; rfl) (.bool false) (by simp [go_sem, e23]) (BR.refl _) ?_
            exact congrArg (fun v => [v]) (slotOf_same act 34 _ (by omega))
          | 23, ho, hD =>
            cases ho
            have e20 := slot_tmps (List.cons.inj (hD 8 (by decide))).1
            have e34 := slot_tmps (List.cons.inj (hD 22 (by decide))).1
            refine rgw_val (wanted_none rfl) (.bool false) (by simp [go_sem, e20, e34]) (BR.refl _) ?_
            exact congrArg (fun v => [v]) (slotOf_same act 35 _ (by omega))
          | _ + 24, ho, _ => cases ho
        · intro act wA hR hF hA
          have f0 : slotOf act 0 = .slice a l.length c := hF.slot 0 (by kernel_rfl)
          have f1 : slotOf act 1 = i64 m := hF.slot 1 (by kernel_rfl)
          have f2 : slotOf act 2 = undef := hF.slot 2 (by kernel_rfl)
          have f3 : slotOf act 3 = undef := hF.slot 3 (by kernel_rfl)
          have f5 : slotOf act 5 = i64 k := hF.slot 5 (by kernel_rfl)
          have f12 : slotOf act 12 = .slice a l.length c := (List.cons.inj (hA 0 (by decide))).1
          have f13 : slotOf act 13 = i64 k := (List.cons.inj (hA 1 (by decide))).1
          have f14 : slotOf act 14 = .pointer (some ⟨b, o + k, none⟩) := (List.cons.inj (hA 2 (by decide))).1
          have f15 : slotOf act 15 = i64 l[k] := (List.cons.inj (hA 3 (by decide))).1
          have f16 : slotOf act 16 = i64 m := (List.cons.inj (hA 4 (by decide))).1
          have f17 : slotOf act 17 = i64 ((m : Int) - 1) := (List.cons.inj (hA 5 (by decide))).1
          have f18 : slotOf act 18 = .bool true := (List.cons.inj (hA 6 (by decide))).1
          have f19 : slotOf act 19 = .bool false := (List.cons.inj (hA 7 (by decide))).1
          have f20 : slotOf act 20 = .bool false := (List.cons.inj (hA 8 (by decide))).1
          have f21 : slotOf act 21 = i64 k := (List.cons.inj (hA 9 (by decide))).1
          have f22 : slotOf act 22 = .bool false := (List.cons.inj (hA 10 (by decide))).1
          have f23 : slotOf act 23 = .bool false := (List.cons.inj (hA 11 (by decide))).1
          have f34 : slotOf act 34 = .bool false := (List.cons.inj (hA 22 (by decide))).1
          have f35 : slotOf act 35 = .bool false := (List.cons.inj (hA 23 (by decide))).1
          rw [act_eta act 36 hF.size hF.defers]
          simp only [show List.range 36 = [0, 1, 2, 3, 4, 5, 6, 7, 8, 9, 10, 11, 12, 13, 14, 15, 16, 17, 18, 19, 20, 21, 22, 23, 24, 25, 26, 27, 28, 29, 30, 31, 32, 33, 34, 35] from rfl, List.map_cons, List.map_nil, f0, f1, f2, f3, f5, f12, f13, f14, f15, f16, f17, f18, f19, f20, f21, f22, f23, f34, f35]
          clear hA hF f0 f1 f2 f3 f5 f12 f13 f14 f15 f16 f17 f18 f19 f20 f21 f22 f23 f34 f35
          have hbA := hbw.trans (Below.mono hR hbw.size)
          go_wp2_with fail
          go_roundw
          case rel =>
            first
              | exact ⟨k + 1, by omega, by go_num, hbA⟩
              | ((repeat apply Exists.intro); refine ⟨?_, rfl⟩; exact ⟨k + 1, by omega, by go_num, hbA⟩)
          case measure => simp [intOf]; omega
      · have hk0 : 0 < k := h0
        have hw3 : -9223372036854775808 ≤ (k : Int) - 1 := by omega
        have hw4 : (k : Int) - 1 ≤ 9223372036854775807 := by omega
        have hi2 : ∀ W, (Instr.indexAt 40 (.slice a l.length c) (.int .i64 ((k : Int) - 1))).run Tryd.prog W = .ok (.pointer (some ⟨b, o + (k - 1), none⟩)) W := fun W => by
          have := idx40 (n := l.length) (c := c) (k := k - 1) W (hl1.at_ (ne_nil_of_lt hlt)) (by omega)
          rwa [show ((k - 1 : Nat) : Int) = (k : Int) - 1 by omega] at this
        have hlt3 : l[k - 1]'(by omega) < l[k] := List.pairwise_iff_getElem.1 hr.1 (k - 1) k (by omega) hlt (by omega)
        go_wp2_with fail
        refine rg_region rdClP pureClP (gClP b o a c m k l hlt) BR (by kernel_rfl) (by kernel_rfl) (fun n => BR.drawn _ n) BR.refl (fun _ _ _ => BR.trans) ?_ ?_ ?_
        · intro i hi vs wA wB hG hR
          match i, hi, hG with
          | 0, _, hG => exact hG
          | 1, _, hG => exact hG
          | 2, _, hG => exact hG
          | 3, _, hG => exact hG
          | 4, _, hG => exact hG
          | 5, _, hG => exact hG
          | 6, _, hG => exact hG
          | 7, _, hG => exact hG
          | 8, _, hG => exact hG
          | 9, _, hG => exact hG
          | 10, _, hG => exact hG
          | 11, _, hG => exact hG
          | 12, _, hG => exact hG
          | 13, _, hG => exact hG
          | 14, _, hG => exact hG
          | 15, _, hG => exact hG
          | 16, _, hG => exact hG
          | 17, _, hG => exact hG
          | 18, _, hG => exact hG
          | 19, _, hG => exact hG
          | 20, _, hG => exact hG
          | 21, _, hG => exact hG
          | 22, _, hG => exact hG
          | 23, _, hG => exact hG
          | _ + 24, _, _ => trivial
        · intro i op ho act wA hR hF hD
          have sz : act.tmps.size = 36 := hF.size
          match i, ho, hD with
          | 0, ho, hD =>
            cases ho
            have e0 := slot_tmps (show slotOf act 0 = .slice a l.length c from hF.slot 0 (by kernel_rfl))
            refine rgw_val (wanted_none rfl) (.slice a l.length c) (by simp [go_sem, e0]) (BR.refl _) ?_
            exact congrArg (fun v => [v]) (slotOf_same act 12 _ (by omega))
          | 1, ho, hD =>
            cases ho
            have e5 := slot_tmps (show slotOf act 5 = i64 k from hF.slot 5 (by kernel_rfl))
            refine rgw_val (wanted_none rfl) (i64 k) (by simp [go_sem, e5]) (BR.refl _) ?_
            exact congrArg (fun v => [v]) (slotOf_same act 13 _ (by omega))
          | 2, ho, hD =>
            cases ho
            have e12 := slot_tmps (List.cons.inj (hD 0 (by decide))).1
            have e13 := slot_tmps (List.cons.inj (hD 1 (by decide))).1
            refine rgw_val (wanted_none rfl) (.pointer (some ⟨b, o + k, none⟩)) (by simp [go_sem, e12, e13, hi1]) (BR.refl _) ?_
            exact congrArg (fun v => [v]) (slotOf_same act 14 _ (by omega))
          | 3, ho, hD =>
            cases ho
            have e14 := slot_tmps (List.cons.inj (hD 2 (by decide))).1
            have hlA := hl1.same (Same.mono (Same.of_below hR) (Nat.le_trans hn hbw.size))
            have hcA := hlA.cell k hlt
            refine rgw_val (wanted_none rfl) (i64 l[k]) (by simp [go_sem, e14, hcA]) (BR.refl _) ?_
            exact congrArg (fun v => [v]) (slotOf_same act 15 _ (by omega))
          | 4, ho, hD =>
            cases ho
            have e1 := slot_tmps (show slotOf act 1 = i64 m from hF.slot 1 (by kernel_rfl))
            refine rgw_val (wanted_none rfl) (i64 m) (by simp [go_sem, e1]) (BR.refl _) ?_
            exact congrArg (fun v => [v]) (slotOf_same act 16 _ (by omega))
          | 5, ho, hD =>
            cases ho
            have e16 := slot_tmps (List.cons.inj (hD 4 (by decide))).1
            refine rgw_val (wanted_none rfl) (i64 ((m : Int) - 1)) (by simp [go_sem, e16, wrap_fit hw1 hw2]) (BR.refl _) ?_
            exact congrArg (fun v => [v]) (slotOf_same act 17 _ (by omega))
          | 6, ho, hD =>
            cases ho
            have e15 := slot_tmps (List.cons.inj (hD 3 (by decide))).1
            have e17 := slot_tmps (List.cons.inj (hD 5 (by decide))).1
            refine rgw_call (wanted_none rfl) 31 #[i64 l[k], i64 0, i64 ((m : Int) - 1)] (by simp [go_sem, e15, e17]) rfl ?_
            refine (inside_any _ _ _ _).mono ?_
            rintro e wB ⟨rfl, rfl⟩
            exact ⟨_, rfl, BR.refl _, congrArg (fun v => [v]) (by rw [hin.out]; exact slotOf_same act 18 _ (by omega))⟩
          | 7, ho, hD =>
            cases ho
            have e18 := slot_tmps (List.cons.inj (hD 6 (by decide))).1
            refine rgw_val (wanted_none rfl) (.bool false) (by simp [go_sem, e18]) (BR.refl _) ?_
            exact congrArg (fun v => [v]) (slotOf_same act 19 _ (by omega))
          | 8, ho, hD =>
            cases ho
            have e19 := slot_tmps (List.cons.inj (hD 7 (by decide))).1
            refine rgw_val (wanted_none rfl) (.bool false) (by simp [go_sem, e19]) (BR.refl _) ?_
            exact congrArg (fun v => [v]) (slotOf_same act 20 _ (by omega))
          | 9, ho, hD =>
            cases ho
            have dj : slotOf act 20 = .bool false := (List.cons.inj (hD 8 (by decide))).1
            have e5 := slot_tmps (show slotOf act 5 = i64 k from hF.slot 5 (by kernel_rfl))
            refine rgw_val (by rw [wanted_of (d := 20) rfl rfl dj]; rfl) (i64 k) (by simp [go_sem, e5]) (BR.refl _) ?_
            exact congrArg (fun v => [v]) (slotOf_same act 21 _ (by omega))
          | 10, ho, hD =>
            cases ho
            have dj : slotOf act 20 = .bool false := (List.cons.inj (hD 8 (by decide))).1
            have e21 := slot_tmps (List.cons.inj (hD 9 (by decide))).1
            refine rgw_val (by rw [wanted_of (d := 20) rfl rfl dj]; rfl) (.bool true) (by simp [go_sem, e21, hk0]) (BR.refl _) ?_
            exact congrArg (fun v => [v]) (slotOf_same act 22 _ (by omega))
          | 11, ho, hD =>
            cases ho
            have dj : slotOf act 20 = .bool false := (List.cons.inj (hD 8 (by decide))).1
            have e22 := slot_tmps (List.cons.inj (hD 10 (by decide))).1
            refine rgw_val (by rw [wanted_of (d := 20) rfl rfl dj]; rfl) (.bool true) (by simp [go_sem, e22]) (BR.refl _) ?_
            exact congrArg (fun v => [v]) (slotOf_same act 23 _ (by omega))
          | 12, ho, hD =>
            cases ho
            have dj : slotOf act 23 = .bool true := (List.cons.inj (hD 11 (by decide))).1
            have e0 := slot_tmps (show slotOf act 0 = .slice a l.length c from hF.slot 0 (by kernel_rfl))
            refine rgw_val (by rw [wanted_of (d := 23) rfl rfl dj]; rfl) (.slice a l.length c) (by simp [go_sem, e0]) (BR.refl _) ?_
            exact congrArg (fun v => [v]) (slotOf_same act 24 _ (by omega))
          | 13, ho, hD =>
            cases ho
            have dj : slotOf act 23 = .bool true := (List.cons.inj (hD 11 (by decide))).1
            have e5 := slot_tmps (show slotOf act 5 = i64 k from hF.slot 5 (by kernel_rfl))
            refine rgw_val (by rw [wanted_of (d := 23) rfl rfl dj]; rfl) (i64 k) (by simp [go_sem, e5]) (BR.refl _) ?_
            exact congrArg (fun v => [v]) (slotOf_same act 25 _ (by omega))
          | 14, ho, hD =>
            cases ho
            have dj : slotOf act 23 = .bool true := (List.cons.inj (hD 11 (by decide))).1
            have e24 := slot_tmps (List.cons.inj (hD 12 (by decide))).1
            have e25 := slot_tmps (List.cons.inj (hD 13 (by decide))).1
            refine rgw_val (by rw [wanted_of (d := 23) rfl rfl dj]; rfl) (.pointer (some ⟨b, o + k, none⟩)) (by simp [go_sem, e24, e25, hi1]) (BR.refl _) ?_
            exact congrArg (fun v => [v]) (slotOf_same act 26 _ (by omega))
          | 15, ho, hD =>
            cases ho
            have dj : slotOf act 23 = .bool true := (List.cons.inj (hD 11 (by decide))).1
            have e26 := slot_tmps (List.cons.inj (hD 14 (by decide))).1
            have hlA := hl1.same (Same.mono (Same.of_below hR) (Nat.le_trans hn hbw.size))
            have hcA := hlA.cell k hlt
            refine rgw_val (by rw [wanted_of (d := 23) rfl rfl dj]; rfl) (i64 l[k]) (by simp [go_sem, e26, hcA]) (BR.refl _) ?_
            exact congrArg (fun v => [v]) (slotOf_same act 27 _ (by omega))
          | 16, ho, hD =>
            cases ho
            have dj : slotOf act 23 = .bool true := (List.cons.inj (hD 11 (by decide))).1
            have e0 := slot_tmps (show slotOf act 0 = .slice a l.length c from hF.slot 0 (by kernel_rfl))
            refine rgw_val (by rw [wanted_of (d := 23) rfl rfl dj]; rfl) (.slice a l.length c) (by simp [go_sem, e0]) (BR.refl _) ?_
            exact congrArg (fun v => [v]) (slotOf_same act 28 _ (by omega))
          | 17, ho, hD =>
            cases ho
            have dj : slotOf act 23 = .bool true := (List.cons.inj (hD 11 (by decide))).1
            have e5 := slot_tmps (show slotOf act 5 = i64 k from hF.slot 5 (by kernel_rfl))
            refine rgw_val (by rw [wanted_of (d := 23) rfl rfl dj]; rfl) (i64 k) (by simp [go_sem, e5]) (BR.refl _) ?_
            exact congrArg (fun v => [v]) (slotOf_same act 29 _ (by omega))
          | 18, ho, hD =>
            cases ho
            have dj : slotOf act 23 = .bool true := (List.cons.inj (hD 11 (by decide))).1
            have e29 := slot_tmps (List.cons.inj (hD 17 (by decide))).1
            refine rgw_val (by rw [wanted_of (d := 23) rfl rfl dj]; rfl) (i64 ((k : Int) - 1)) (by simp [go_sem, e29, wrap_fit hw3 hw4]) (BR.refl _) ?_
            exact congrArg (fun v => [v]) (slotOf_same act 30 _ (by omega))
          | 19, ho, hD =>
            cases ho
            have dj : slotOf act 23 = .bool true := (List.cons.inj (hD 11 (by decide))).1
            have e28 := slot_tmps (List.cons.inj (hD 16 (by decide))).1
            have e30 := slot_tmps (List.cons.inj (hD 18 (by decide))).1
            refine rgw_val (by rw [wanted_of (d := 23) rfl rfl dj]; rfl) (.pointer (some ⟨b, o + (k - 1), none⟩)) (by simp [go_sem, e28, e30, hi2]) (BR.refl _) ?_
            exact congrArg (fun v => [v]) (slotOf_same act 31 _ (by omega))
          | 20, ho, hD =>
            cases ho
            have dj : slotOf act 23 = .bool true := (List.cons.inj (hD 11 (by decide))).1
            have e31 := slot_tmps (List.cons.inj (hD 19 (by decide))).1
            have hlA := hl1.same (Same.mono (Same.of_below hR) (Nat.le_trans hn hbw.size))
            have hcB := hlA.cell (k - 1) (by omega)
            refine rgw_val (by rw [wanted_of (d := 23) rfl rfl dj]; rfl) (i64 (l[k - 1]'(by omega))) (by simp [go_sem, e31, hcB]) (BR.refl _) ?_
            exact congrArg (fun v => [v]) (slotOf_same act 32 _ (by omega))
          | 21, ho, hD =>
            cases ho
            have dj : slotOf act 23 = .bool true := (List.cons.inj (hD 11 (by decide))).1
            have e27 := slot_tmps (List.cons.inj (hD 15 (by decide))).1
            have e32 := slot_tmps (List.cons.inj (hD 20 (by decide))).1
            refine rgw_val (by rw [wanted_of (d := 23) rfl rfl dj]; rfl) (.bool false) (by simp [go_sem, e27, e32, hlt3]) (BR.refl _) ?_
            exact congrArg (fun v => [v]) (slotOf_same act 33 _ (by omega))
          | 22, ho, hD =>
            cases ho
            have dj : slotOf act 20 = .bool false := (List.cons.inj (hD 8 (by decide))).1
            have e23 := slot_tmps (List.cons.inj (hD 11 (by decide))).1
            have e33 := slot_tmps (List.cons.inj (hD 21 (by decide))).1
            refine rgw_val (by rw [wanted_of (d := 20) rfl rfl dj]; rfl) (.bool false) (by simp [go_sem, e23, e33]) (BR.refl _) ?_
            exact congrArg (fun v => [v]) (slotOf_same act 34 _ (by omega))
          | 23, ho, hD =>
            cases ho
            have e20 := slot_tmps (List.cons.inj (hD 8 (by decide))).1
            have e34 := slot_tmps (List.cons.inj (hD 22 (by decide))).1
            refine rgw_val (wanted_none rfl) (.bool false) (by simp [go_sem, e20, e34]) (BR.refl _) ?_
            exact congrArg (fun v => [v]) (slotOf_same act 35 _ (by omega))
          | _ + 24, ho, _ => cases ho
        · intro act wA hR hF hA
          have f0 : slotOf act 0 = .slice a l.length c := hF.slot 0 (by kernel_rfl)
          have f1 : slotOf act 1 = i64 m := hF.slot 1 (by kernel_rfl)
          have f2 : slotOf act 2 = undef := hF.slot 2 (by kernel_rfl)
          have f3 : slotOf act 3 = undef := hF.slot 3 (by kernel_rfl)
          have f5 : slotOf act 5 = i64 k := hF.slot 5 (by kernel_rfl)
          have f12 : slotOf act 12 = .slice a l.length c := (List.cons.inj (hA 0 (by decide))).1
          have f13 : slotOf act 13 = i64 k := (List.cons.inj (hA 1 (by decide))).1
          have f14 : slotOf act 14 = .pointer (some ⟨b, o + k, none⟩) := (List.cons.inj (hA 2 (by decide))).1
          have f15 : slotOf act 15 = i64 l[k] := (List.cons.inj (hA 3 (by decide))).1
          have f16 : slotOf act 16 = i64 m := (List.cons.inj (hA 4 (by decide))).1
          have f17 : slotOf act 17 = i64 ((m : Int) - 1) := (List.cons.inj (hA 5 (by decide))).1
          have f18 : slotOf act 18 = .bool true := (List.cons.inj (hA 6 (by decide))).1
          have f19 : slotOf act 19 = .bool false := (List.cons.inj (hA 7 (by decide))).1
          have f20 : slotOf act 20 = .bool false := (List.cons.inj (hA 8 (by decide))).1
          have f21 : slotOf act 21 = i64 k := (List.cons.inj (hA 9 (by decide))).1
          have f22 : slotOf act 22 = .bool true := (List.cons.inj (hA 10 (by decide))).1
          have f23 : slotOf act 23 = .bool true := (List.cons.inj (hA 11 (by decide))).1
          have f24 : slotOf act 24 = .slice a l.length c := (List.cons.inj (hA 12 (by decide))).1
          have f25 : slotOf act 25 = i64 k := (List.cons.inj (hA 13 (by decide))).1
          have f26 : slotOf act 26 = .pointer (some ⟨b, o + k, none⟩) := (List.cons.inj (hA 14 (by decide))).1
          have f27 : slotOf act 27 = i64 l[k] := (List.cons.inj (hA 15 (by decide))).1
          have f28 : slotOf act 28 = .slice a l.length c := (List.cons.inj (hA 16 (by decide))).1
          have f29 : slotOf act 29 = i64 k := (List.cons.inj (hA 17 (by decide))).1
          have f30 : slotOf act 30 = i64 ((k : Int) - 1) := (List.cons.inj (hA 18 (by decide))).1
          have f31 : slotOf act 31 = .pointer (some ⟨b, o + (k - 1), none⟩) := (List.cons.inj (hA 19 (by decide))).1
          have f32 : slotOf act 32 = i64 (l[k - 1]'(by omega)) := (List.cons.inj (hA 20 (by decide))).1
          have f33 : slotOf act 33 = .bool false := (List.cons.inj (hA 21 (by decide))).1
          have f34 : slotOf act 34 = .bool false := (List.cons.inj (hA 22 (by decide))).1
          have f35 : slotOf act 35 = .bool false := (List.cons.inj (hA 23 (by decide))).1
          rw [act_eta act 36 hF.size hF.defers]
          simp only [show List.range 36 = [0, 1, 2, 3, 4, 5, 6, 7, 8, 9, 10, 11, 12, 13, 14, 15, 16, 17, 18, 19, 20, 21, 22, 23, 24, 25, 26, 27, 28, 29, 30, 31, 32, 33, 34, 35] from rfl, List.map_cons, List.map_nil, f0, f1, f2, f3, f5, f12, f13, f14, f15, f16, f17, f18, f19, f20, f21, f22, f23, f24, f25, f26, f27, f28, f29, f30, f31, f32, f33, f34, f35]
          clear hA hF f0 f1 f2 f3 f5 f12 f13 f14 f15 f16 f17 f18 f19 f20 f21 f22 f23 f24 f25 f26 f27 f28 f29 f30 f31 f32 f33 f34 f35
          have hbA := hbw.trans (Below.mono hR hbw.size)
          go_wp2_with fail
          go_roundw
          case rel =>
            first
              | exact ⟨k + 1, by omega, by go_num, hbA⟩
              | ((repeat apply Exists.intro); refine ⟨?_, rfl⟩; exact ⟨k + 1, by omega, by go_num, hbA⟩)
          case measure => simp [intOf]; omega
    · have hlt' : ¬ (k : Int) < (l.length : Int) := by omega
      go_wp2_with fail
      go_ret
      exact ⟨rfl, hbw⟩
end Go.Proofs.YtkbmpkdflgimmaaDoor
/- Plain laws: the first hour, the hours at both shores. -/
namespace Go.Proofs.YtkbmpkdflgimmaaDoor
open Go.RowKit Go.Shelf

theorem climbs_v {W : World} {v : Value} {l : List Int} {m : Nat} (h : ListV W v l) (hr : Rising m l) (hm : m ≤ 1000) : Calls Tryd.prog 36 #[v, i64 m] W (MoorPost W) := by
  obtain ⟨b, o, a, c, rfl, _, hI⟩ := h
  exact climbs_any W.heap.size b o a c m l W (Nat.le_refl _) hI hr hm
theorem kind_lt {B : Book} (hV : Vld B) (hc : ∃ f, CC B [] f) {s hr ld : Int} (h0 : 0 ≤ hr) (h1 : hr < B.tides.length) (h : sureB B s hr ld = false) : kindB B s hr ld < 2 := by
  rcases Int.lt_or_le (kindB B s hr ld) 2 with h9 | h9
  · exact h9
  · have hk := kind_range B s hr ld
    have := (kind_two (s := s) (ld := ld) hV hc h0 h1).1 (by omega)
    rw [h] at this
    cases this
/-- THE LAW OF THE FIRST HOUR. -/
theorem first_law {B : Book} {s hr ld : Int} (hv : B.valid = true) (q : Qs B s hr ld) :
    (firstR B s ld = (0, 22) ∧ bothR B ld = ([], 22)) ∨
    ∃ L k0 k1, bothR B ld = (L, 0) ∧ Rising B.tides.length L ∧ landsR B 0 hr ld = (k0, 0) ∧ landsR B 1 hr ld = (k1, 0) ∧ (0 ≤ idxI L hr ↔ k0 = 2 ∧ k1 = 2) ∧ (k0 ≤ 2 ∧ k1 ≤ 2) ∧
      ((firstR B s ld = (0, 4) ∧ (s = 0 → k0 < 2) ∧ (s = 1 → k1 < 2) ∧ L = []) ∨
       ∃ m, firstR B s ld = (m, 0) ∧ landsR B s m ld = (2, 0) ∧ (s = 0 → k0 < 2 ∨ m ≤ hr) ∧ (s = 1 → k1 < 2 ∨ m ≤ hr) ∧ ∀ x ∈ L, m ≤ x) := by
  have hV := valid_iff.1 hv
  rcases ask_cases hv with ⟨_, he⟩ | ⟨hc, he⟩
  · exact .inl ⟨firstR_err he (by decide) q, bothR_err he (by decide) q⟩
  · right
    have q0 := q.shore (s' := 0) (by decide) (by decide)
    have q1 := q.shore (s' := 1) (by decide) (by decide)
    have t0 := kind_two hV hc (s := 0) (ld := ld) q.h0 q.h1
    have t1 := kind_two hV hc (s := 1) (ld := ld) q.h0 q.h1
    have r0 := kind_range B 0 hr ld
    have r1 := kind_range B 1 hr ld
    have hss : s = 0 ∨ s = 1 := by have := q.s0; have := q.s1; omega
    refine ⟨_, _, _, bothR_ok he q, bothL_rising B ld _, landsR_ok he q0, landsR_ok he q1, ?_, ⟨r0.2, r1.2⟩, ?_⟩
    · rw [idxI_mem, mem_bothL, t0, t1]
      exact ⟨fun h => h.2, fun h => ⟨⟨q.h0, q.h1⟩, h⟩⟩
    · rcases firstR_ok he q with ⟨h3, h4⟩ | ⟨m, h3, h5, h6, h7, h8⟩
      · left
        refine ⟨h3, fun e => ?_, fun e => ?_, ?_⟩
        · subst e; exact kind_lt hV hc q.h0 q.h1 (h4 hr q.h0 q.h1)
        · subst e; exact kind_lt hV hc q.h0 q.h1 (h4 hr q.h0 q.h1)
        · rw [List.eq_nil_iff_forall_not_mem]
          intro x hx
          obtain ⟨⟨a, b⟩, c, d⟩ := mem_bothL.1 hx
          have := h4 x a b
          rcases hss with e | e
          · rw [e, c] at this; cases this
          · rw [e, d] at this; cases this
      · right
        refine ⟨m, h3, ?_, fun e => ?_, fun e => ?_, fun x hx => ?_⟩
        · rw [landsR_ok he (q.hour h5 h6), (kind_two hV hc h5 h6).2 h7]
        · subst e
          rcases Int.lt_or_le hr m with h | h
          · exact .inl (kind_lt hV hc q.h0 q.h1 (h8 hr q.h0 h))
          · exact .inr h
        · subst e
          rcases Int.lt_or_le hr m with h | h
          · exact .inl (kind_lt hV hc q.h0 q.h1 (h8 hr q.h0 h))
          · exact .inr h
        · obtain ⟨⟨a, b⟩, c, d⟩ := mem_bothL.1 hx
          rcases Int.lt_or_le x m with h | h
          · have := h8 x a h
            rcases hss with e | e
            · rw [e, c] at this; cases this
            · rw [e, d] at this; cases this
          · exact h
end Go.Proofs.YtkbmpkdflgimmaaDoor
/- Plain laws: what is easier. -/
namespace Go.Proofs.YtkbmpkdflgimmaaDoor

/-- The same water, bottom and soundings; whatever landed still does. -/
structure Eas (B X : Book) : Prop where
  tides : X.tides = B.tides
  sounds : X.sounds = B.sounds
  fl0 : X.s0.fl = B.s0.fl
  fh0 : X.s0.fh = B.s0.fh
  fl1 : X.s1.fl = B.s1.fl
  fh1 : X.s1.fh = B.s1.fh
  valid : X.valid = true
  low : ∀ s ld h f : Int, 0 ≤ ld → landsB B s ld h f B.el = true → landsB X s ld h f X.el = true
  high : ∀ s ld h f : Int, 0 ≤ ld → landsB B s ld h f B.eh = true → landsB X s ld h f X.eh = true
section
variable {B X : Book}
theorem Eas.hh (h : Eas B X) {but : List Int} {hr : Int} {f : Int × Int} {x : Int} : HH X but hr f x ↔ HH B but hr f x := by
  unfold HH tideAt
  rw [h.tides, h.sounds]
theorem Eas.cc (h : Eas B X) {but : List Int} {f : Int × Int} : CC X but f ↔ CC B but f := by
  unfold CC
  simp only [h.hh, h.fl0, h.fh0, h.fl1, h.fh1, h.tides]
theorem Eas.sure (h : Eas B X) {s hr ld : Int} (hl : 0 ≤ ld) (hs : sureB B s hr ld = true) : sureB X s hr ld = true :=
  sureB_iff.2 fun f hf x hx => h.high _ _ _ _ hl (sureB_iff.1 hs f (h.cc.1 hf) x (h.hh.1 hx))
theorem Eas.maybe (h : Eas B X) {s hr ld : Int} (hl : 0 ≤ ld) (hs : maybeB B s hr ld = true) : maybeB X s hr ld = true := by
  obtain ⟨f, hf, x, hx, hl2⟩ := maybeB_iff.1 hs
  exact maybeB_iff.2 ⟨f, h.cc.2 hf, x, h.hh.2 hx, h.low _ _ _ _ hl hl2⟩
theorem Eas.kind (h : Eas B X) {s hr ld : Int} (hl : 0 ≤ ld) : kindB B s hr ld ≤ kindB X s hr ld := by
  unfold kindB
  have h1 := h.sure (s := s) (hr := hr) hl
  have h2 := h.maybe (s := s) (hr := hr) hl
  cases a : sureB B s hr ld <;> cases b : maybeB B s hr ld <;> cases c : sureB X s hr ld <;> cases d : maybeB X s hr ld <;> simp_all
theorem Eas.qs (h : Eas B X) {s hr ld : Int} (q : Qs B s hr ld) : Qs X s hr ld := ⟨q.s0, q.s1, q.h0, by rw [h.tides]; exact q.h1, q.l0, q.l1⟩
theorem Eas.ask (h : Eas B X) (hv : B.valid = true) : askE X true = askE B true := by
  rcases ask_cases hv with ⟨h1, h2⟩ | ⟨h1, h2⟩ <;> rcases ask_cases h.valid with ⟨h3, h4⟩ | ⟨h3, h4⟩
  · rw [h2, h4]
  · exact absurd (h3.imp fun f hf => h.cc.1 hf) h1
  · exact absurd (h1.imp fun f hf => h.cc.2 hf) h3
  · rw [h2, h4]
/-- THE LAW OF WHAT IS EASIER. -/
theorem easier_law {s hr ld : Int} (h : Eas B X) (hv : B.valid = true) (q : Qs B s hr ld) :
    (landsR B s hr ld = (0, 22) ∧ landsR X s hr ld = (0, 22)) ∨
    ∃ k k' m e m' e' n i n' i' L M, landsR B s hr ld = (k, 0) ∧ landsR X s hr ld = (k', 0) ∧ k ≤ k' ∧ mostR B s hr = (m, e) ∧ mostR X s hr = (m', e') ∧ ((e = 0 ∧ e' = 0 ∧ m ≤ m') ∨ e = 4) ∧
      firstR B s ld = (n, i) ∧ firstR X s ld = (n', i') ∧ ((i = 0 ∧ i' = 0 ∧ n' ≤ n) ∨ i = 4) ∧ bothR B ld = (L, 0) ∧ bothR X ld = (M, 0) ∧ ∀ x ∈ L, 0 ≤ idxI M x := by
  have hV := valid_iff.1 hv
  have ha := h.ask hv
  have qx := h.qs q
  rcases ask_cases hv with ⟨_, he⟩ | ⟨hc, he⟩
  · exact .inl ⟨landsR_err he (by decide) q, landsR_err (ha.trans he) (by decide) qx⟩
  · right
    have hx := ha.trans he
    refine ⟨_, _, (mostR B s hr).1, (mostR B s hr).2, (mostR X s hr).1, (mostR X s hr).2, (firstR B s ld).1, (firstR B s ld).2, (firstR X s ld).1, (firstR X s ld).2, _, _, landsR_ok he q, landsR_ok hx qx, h.kind q.l0, rfl, rfl, ?_, rfl, rfl, ?_, bothR_ok he q, bothR_ok hx qx, ?_⟩
    · rcases mostR_ok he q with ⟨h3, h4⟩ | ⟨m, h3, h5, h6, h7, h8⟩
      · right; rw [h3]
      · left
        rw [h3]
        rcases mostR_ok hx qx with ⟨g3, g4⟩ | ⟨m', g3, g5, g6, g7, g8⟩
        · have := h.sure h5 h7
          rw [g4 m h5 h6] at this
          cases this
        · rw [g3]
          refine ⟨rfl, rfl, ?_⟩
          rcases Int.lt_or_le m' m with hlt | hle
          · have := h.sure h5 h7
            rw [g8 m hlt h6] at this
            cases this
          · exact hle
    · rcases firstR_ok he q with ⟨h3, h4⟩ | ⟨m, h3, h5, h6, h7, h8⟩
      · right; rw [h3]
      · left
        rw [h3]
        rcases firstR_ok hx qx with ⟨g3, g4⟩ | ⟨m', g3, g5, g6, g7, g8⟩
        · have := h.sure q.l0 h7
          rw [g4 m h5 (by rw [h.tides]; exact h6)] at this
          cases this
        · rw [g3]
          refine ⟨rfl, rfl, ?_⟩
          rcases Int.lt_or_le m m' with hlt | hle
          · have := h.sure q.l0 h7
            rw [g8 m h5 hlt] at this
            cases this
          · exact hle
    · intro x hx2
      obtain ⟨⟨a, b⟩, c, d⟩ := mem_bothL.1 hx2
      rw [idxI_mem, mem_bothL, h.tides]
      exact ⟨⟨a, b⟩, h.sure q.l0 c, h.sure q.l0 d⟩
end
theorem div_mono {a k k' : Int} (ha : 0 ≤ a) (hk : 1 ≤ k) (hkk : k ≤ k') : (a + k' - 1) / k' ≤ (a + k - 1) / k := by
  -- both are the least n with k * n ≥ a
  have h1 := Int.mul_ediv_add_emod (a + k - 1) k
  have h2 := Int.emod_lt_of_pos (a + k - 1) (show 0 < k by omega)
  have h3 : 0 ≤ (a + k - 1) / k := Int.ediv_nonneg (by omega) (by omega)
  have h4 : a ≤ k * ((a + k - 1) / k) := by omega
  have h5 : k * ((a + k - 1) / k) ≤ k' * ((a + k - 1) / k) := Int.mul_le_mul_of_nonneg_right hkk h3
  have h6 : (a + k' - 1) / k' < (a + k - 1) / k + 1 := by
    rw [Int.ediv_lt_iff_lt_mul (by omega)]
    rw [Int.add_mul, Int.one_mul, Int.mul_comm]
    omega
  omega
theorem landsB_mono {B X : Book} {s ld h f e e' : Int} (hl : 0 ≤ ld) (hk : 1 ≤ B.sink) (hkk : B.sink ≤ X.sink) (hu : X.under ≤ B.under) (he : e' ≤ e) (h0 : X.s0.lo ≤ B.s0.lo) (h1 : B.s0.hi ≤ X.s0.hi) (h2 : X.s1.lo ≤ B.s1.lo) (h3 : B.s1.hi ≤ X.s1.hi)
    (hb : landsB B s ld h f e = true) : landsB X s ld h f e' = true := by
  have hd := div_mono hl hk hkk
  simp only [landsB, Bool.and_eq_true, decide_eq_true_eq, inB] at hb ⊢
  obtain ⟨a, b, c⟩ := hb
  by_cases hs : s = 0
  · rw [if_pos hs] at b c ⊢
    rw [if_pos hs]
    exact ⟨by omega, by omega, by omega⟩
  · rw [if_neg hs] at b c ⊢
    rw [if_neg hs]
    exact ⟨by omega, by omega, by omega⟩
/-- The book that is easier, as a number chooses it. -/
def easB (B : Book) (s c : Int) : Book :=
  if c = 0 then (if s = 0 then { B with s0 := { B.s0 with lo := max (-40) (B.s0.lo - 1) } } else { B with s1 := { B.s1 with lo := max (-40) (B.s1.lo - 1) } })
  else if c = 1 then (if s = 0 then { B with s0 := { B.s0 with hi := min 80 (B.s0.hi + 1) } } else { B with s1 := { B.s1 with hi := min 80 (B.s1.hi + 1) } })
  else if c = 2 then { B with under := max 0 (B.under - 1) }
  else if c = 3 then { B with sink := min 20 (B.sink + 1) }
  else { B with el := max 0 (B.el - 1), eh := max 0 (B.eh - 1) }
theorem easB_eas {B : Book} (hv : B.valid = true) (s c : Int) : Eas B (easB B s c) := by
  have hV := valid_iff.1 hv
  obtain ⟨h1, h24, e0, ee, e40, e4, k1, k20, u0, u10, s6, ht, ⟨a1, a2, a3, a4, a5, a6, a7⟩, ⟨b1, b2, b3, b4, b5, b6, b7⟩, hso⟩ := hV
  unfold easB
  split
  · split
    · refine ⟨rfl, rfl, rfl, rfl, rfl, rfl, valid_iff.2 ⟨h1, h24, e0, ee, e40, e4, k1, k20, u0, u10, s6, ht, ⟨a1, a2, a3, a4, ?_, ?_, a7⟩, ⟨b1, b2, b3, b4, b5, b6, b7⟩, hso⟩, fun s ld h f hl hb => landsB_mono hl k1 ?_ ?_ ?_ ?_ ?_ ?_ ?_ hb, fun s ld h f hl hb => landsB_mono hl k1 ?_ ?_ ?_ ?_ ?_ ?_ ?_ hb⟩ <;> simp only <;> omega
    · refine ⟨rfl, rfl, rfl, rfl, rfl, rfl, valid_iff.2 ⟨h1, h24, e0, ee, e40, e4, k1, k20, u0, u10, s6, ht, ⟨a1, a2, a3, a4, a5, a6, a7⟩, ⟨b1, b2, b3, b4, ?_, ?_, b7⟩, hso⟩, fun s ld h f hl hb => landsB_mono hl k1 ?_ ?_ ?_ ?_ ?_ ?_ ?_ hb, fun s ld h f hl hb => landsB_mono hl k1 ?_ ?_ ?_ ?_ ?_ ?_ ?_ hb⟩ <;> simp only <;> omega
  · split
    · split
      · refine ⟨rfl, rfl, rfl, rfl, rfl, rfl, valid_iff.2 ⟨h1, h24, e0, ee, e40, e4, k1, k20, u0, u10, s6, ht, ⟨a1, a2, a3, a4, a5, ?_, ?_⟩, ⟨b1, b2, b3, b4, b5, b6, b7⟩, hso⟩, fun s ld h f hl hb => landsB_mono hl k1 ?_ ?_ ?_ ?_ ?_ ?_ ?_ hb, fun s ld h f hl hb => landsB_mono hl k1 ?_ ?_ ?_ ?_ ?_ ?_ ?_ hb⟩ <;> simp only <;> omega
      · refine ⟨rfl, rfl, rfl, rfl, rfl, rfl, valid_iff.2 ⟨h1, h24, e0, ee, e40, e4, k1, k20, u0, u10, s6, ht, ⟨a1, a2, a3, a4, a5, a6, a7⟩, ⟨b1, b2, b3, b4, b5, ?_, ?_⟩, hso⟩, fun s ld h f hl hb => landsB_mono hl k1 ?_ ?_ ?_ ?_ ?_ ?_ ?_ hb, fun s ld h f hl hb => landsB_mono hl k1 ?_ ?_ ?_ ?_ ?_ ?_ ?_ hb⟩ <;> simp only <;> omega
    · split
      · refine ⟨rfl, rfl, rfl, rfl, rfl, rfl, valid_iff.2 ⟨h1, h24, e0, ee, e40, e4, k1, k20, ?_, ?_, s6, ht, ⟨a1, a2, a3, a4, a5, a6, a7⟩, ⟨b1, b2, b3, b4, b5, b6, b7⟩, hso⟩, fun s ld h f hl hb => landsB_mono hl k1 ?_ ?_ ?_ ?_ ?_ ?_ ?_ hb, fun s ld h f hl hb => landsB_mono hl k1 ?_ ?_ ?_ ?_ ?_ ?_ ?_ hb⟩ <;> simp only <;> omega
      · split
        · refine ⟨rfl, rfl, rfl, rfl, rfl, rfl, valid_iff.2 ⟨h1, h24, e0, ee, e40, e4, ?_, ?_, u0, u10, s6, ht, ⟨a1, a2, a3, a4, a5, a6, a7⟩, ⟨b1, b2, b3, b4, b5, b6, b7⟩, hso⟩, fun s ld h f hl hb => landsB_mono hl k1 ?_ ?_ ?_ ?_ ?_ ?_ ?_ hb, fun s ld h f hl hb => landsB_mono hl k1 ?_ ?_ ?_ ?_ ?_ ?_ ?_ hb⟩ <;> simp only <;> omega
        · refine ⟨rfl, rfl, rfl, rfl, rfl, rfl, valid_iff.2 ⟨h1, h24, ?_, ?_, ?_, ?_, k1, k20, u0, u10, s6, ht, ⟨a1, a2, a3, a4, a5, a6, a7⟩, ⟨b1, b2, b3, b4, b5, b6, b7⟩, hso⟩, fun s ld h f hl hb => landsB_mono hl k1 ?_ ?_ ?_ ?_ ?_ ?_ ?_ hb, fun s ld h f hl hb => landsB_mono hl k1 ?_ ?_ ?_ ?_ ?_ ?_ ?_ hb⟩ <;> simp only <;> omega
end Go.Proofs.YtkbmpkdflgimmaaDoor
