/- Contracts of At and Climbs. -/
import Derived.Test.YtkbmpkdflgimmaaDoorPure3
namespace Go.Proofs.YtkbmpkdflgimmaaDoor
open Go.RowKit Go.Shelf

set_option maxRecDepth 100000 in
set_option maxHeartbeats 1000000 in
theorem at_any (n b o : Nat) (a : Option Addr) (c : Nat) (l : List Int) (x : Int) (w : World) (hl : IntsAt n w b o a l) :
    Calls Tryd.prog 44 #[.slice a l.length c, i64 x] w fun e w' => e = .returned (i64 (idxI l x)) ∧ w = w' := by
  have hlen := hl.len
  go_enter Tryd.func44, Tryd.ntmps44
  go_wp2_with fail
  go_loop [5] (fun i => ∃ k : Nat, k ≤ l.length ∧ i = .int .i64 k ∧ Hid (∀ j (h : j < l.length), j < k → l[j] ≠ x)) (fun i => l.length - (intOf i).toNat)
  case atStart => exact ⟨0, Nat.zero_le _, rfl, fun j _ h => by omega⟩
  case round =>
    obtain ⟨k, hk, rfl, hall⟩ := hrel
    by_cases hlt : k < l.length
    · have hidx := idx40 (n := l.length) (c := c) (k := k) w (hl.at_ (ne_nil_of_lt hlt)) hlt
      have hc := hl.cell k hlt
      by_cases he : l[k] = x
      · have fin : Hid (idxI l x = k) := by
          show _ = _
          have : l.findIdx? (· == x) = some k := by
            rw [List.findIdx?_eq_some_iff_getElem]
            exact ⟨hlt, by simp [he], fun j hj => by simpa using hall.out j (by omega) hj⟩
          simp [idxI, this]
        have he' : ((l[k] == x) = true) := by simp [he]
        clear he
        go_wp2_with fail
        go_ret
        exact ⟨by have h := fin.out; rw [h]; rfl, rfl⟩
      · have he' : ((l[k] == x) = false) := by simp [he]
        have hnx : Hid (∀ j (h : j < l.length), j < k + 1 → l[j] ≠ x) := fun j h hj => by
          rcases Nat.lt_or_ge j k with h' | h'
          · exact hall.out j h h'
          · obtain rfl : j = k := by omega
            exact he
        clear he
        go_wp2_with fail
        go_round
        case rel => exact ⟨k + 1, by omega, by go_num, hnx⟩
        case measure => simp [intOf]; omega
    · have fin : Hid (idxI l x = -1) := by
        show _ = _
        have : l.findIdx? (· == x) = none := by
          rw [List.findIdx?_eq_none_iff]
          intro y hy
          obtain ⟨j, h, rfl⟩ := List.getElem_of_mem hy
          simpa using hall.out j h (by omega)
        simp [idxI, this]
      go_wp2_with fail
      go_ret
      exact ⟨by rw [fin.out]; rfl, rfl⟩
theorem at_v {W : World} {v : Value} {l : List Int} (h : ListV W v l) (x : Int) : Calls Tryd.prog 44 #[v, i64 x] W fun e w' => e = .returned (i64 (idxI l x)) ∧ W = w' := by
  obtain ⟨b, o, a, c, rfl, _, hI⟩ := h
  exact at_any W.heap.size b o a c l x W hI
theorem idxI_mem (l : List Int) (x : Int) : 0 ≤ idxI l x ↔ x ∈ l := by
  have := idxI_nonneg l x
  rw [← List.contains_iff_mem, ← this, decide_eq_true_eq]
def rdClZ (i : Nat) : List Nat := match i with
  | 0 => [12] | 1 => [13] | 2 => [14] | 3 => [15] | 4 => [16] | 5 => [17] | 6 => [18] | 7 => [19] | 8 => [20] | 9 => [21] | 10 => [22] | 11 => [23] | 12 => [24] | 13 => [25] | 14 => [26] | 15 => [27] | 16 => [28] | 17 => [29] | 18 => [30] | 19 => [31] | 20 => [32] | 21 => [33] | 22 => [34] | 23 => [35] | _ => []
def pureClZ (i : Nat) : Bool := match i with
  | 6 => false | _ => true
def gClZ (b o : Nat) (a : Option Addr) (c m k : Nat) (l : List Int) (hlt : k < l.length) (i : Nat) (vs : List Value) (_ : World) : Prop := match i with
  | 0 => vs = [.slice a l.length c]
  | 1 => vs = [i64 k]
  | 2 => vs = [.pointer (some ⟨b, o + k, none⟩)]
  | 3 => vs = [i64 l[k]]
  | 4 => vs = [i64 m]
  | 5 => vs = [i64 ((m : Int) - 1)]
  | 6 => vs = [.bool true]
  | 7 => vs = [.bool false]
  | 8 => vs = [.bool false]
  | 9 => vs = [i64 k]
  | 10 => vs = [.bool false]
  | 11 => vs = [.bool false]
  | 12 => True
  | 13 => True
  | 14 => True
  | 15 => True
  | 16 => True
  | 17 => True
  | 18 => True
  | 19 => True
  | 20 => True
  | 21 => True
  | 22 => vs = [.bool false]
  | 23 => vs = [.bool false]
  | _ => True
def rdClP (i : Nat) : List Nat := match i with
  | 0 => [12] | 1 => [13] | 2 => [14] | 3 => [15] | 4 => [16] | 5 => [17] | 6 => [18] | 7 => [19] | 8 => [20] | 9 => [21] | 10 => [22] | 11 => [23] | 12 => [24] | 13 => [25] | 14 => [26] | 15 => [27] | 16 => [28] | 17 => [29] | 18 => [30] | 19 => [31] | 20 => [32] | 21 => [33] | 22 => [34] | 23 => [35] | _ => []
def pureClP (i : Nat) : Bool := match i with
  | 6 => false | _ => true
def gClP (b o : Nat) (a : Option Addr) (c m k : Nat) (l : List Int) (hlt : k < l.length) (i : Nat) (vs : List Value) (_ : World) : Prop := match i with
  | 0 => vs = [.slice a l.length c]
  | 1 => vs = [i64 k]
  | 2 => vs = [.pointer (some ⟨b, o + k, none⟩)]
  | 3 => vs = [i64 l[k]]
  | 4 => vs = [i64 m]
  | 5 => vs = [i64 ((m : Int) - 1)]
  | 6 => vs = [.bool true]
  | 7 => vs = [.bool false]
  | 8 => vs = [.bool false]
  | 9 => vs = [i64 k]
  | 10 => vs = [.bool true]
  | 11 => vs = [.bool true]
  | 12 => vs = [.slice a l.length c]
  | 13 => vs = [i64 k]
  | 14 => vs = [.pointer (some ⟨b, o + k, none⟩)]
  | 15 => vs = [i64 l[k]]
  | 16 => vs = [.slice a l.length c]
  | 17 => vs = [i64 k]
  | 18 => vs = [i64 ((k : Int) - 1)]
  | 19 => vs = [.pointer (some ⟨b, o + (k - 1), none⟩)]
  | 20 => vs = [i64 (l[k - 1]'(by omega))]
  | 21 => vs = [.bool false]
  | 22 => vs = [.bool false]
  | 23 => vs = [.bool false]
  | _ => True
set_option maxRecDepth 100000 in
set_option maxHeartbeats 4000000 in
theorem climbs_any (n b o : Nat) (a : Option Addr) (c m : Nat) (l : List Int) (w : World) (hn : n ≤ w.heap.size) (hl : IntsAt n w b o a l) (hr : Rising m l) (hm : m ≤ 1000) :
    Calls Tryd.prog 36 #[.slice a l.length c, i64 m] w (MoorPost w) := by
  have hlen := hl.len
  go_enter Tryd.func36, Tryd.ntmps36
  go_wp2_with fail
  go_loopw [5] (fun i wr => ∃ k : Nat, k ≤ l.length ∧ i = .int .i64 k ∧ Below w.heap.size w wr) (fun i _ => l.length - (intOf i).toNat)
  case atStart => exact ⟨0, Nat.zero_le _, rfl, Below.refl _ _⟩
  case round =>
    obtain ⟨k, hk, rfl, hbw⟩ := hrel
    by_cases hlt : k < l.length
    · have hl1 := hl.same ((Same.of_below hbw).mono hn)
      have hi1 : ∀ W, (Instr.indexAt 40 (.slice a l.length c) (.int .i64 (k : Int))).run Tryd.prog W = .ok (.pointer (some ⟨b, o + k, none⟩)) W := fun W => idx40 W (hl1.at_ (ne_nil_of_lt hlt)) hlt
      have hc1 := hl1.cell k hlt
      have hin := Lib.hid (inB_true (hr.2 _ (List.getElem_mem hlt)).1 (show l[k] ≤ (m : Int) - 1 by have := (hr.2 _ (List.getElem_mem hlt)).2; omega))
      have hw1 : -9223372036854775808 ≤ (m : Int) - 1 := by omega
      have hw2 : (m : Int) - 1 ≤ 9223372036854775807 := by omega
      rcases Nat.eq_zero_or_pos k with h0 | h0
      · have hk0 : ¬ 0 < k := by omega
        have h0 := Lib.hid h0
        go_wp2_with fail
        refine rg_region rdClZ pureClZ (gClZ b o a c m k l hlt) BR (by kernel_rfl) (by kernel_rfl) (fun n => BR.drawn _ n) BR.refl (fun _ _ _ => BR.trans) ?_ ?_ ?_
        · intro i hi vs wA wB hG hR
          match i, hi, hG with
          | 0, _, hG => exact hG
          | 1, _, hG => exact hG
          | 2, _, hG => exact hG
          | 3, _, hG => exact hG
          | 4, _, hG => exact hG
          | 5, _, hG => exact hG
          | 6, _, hG => exact hG
          | 7, _, hG => exact hG
          | 8, _, hG => exact hG
          | 9, _, hG => exact hG
          | 10, _, hG => exact hG
          | 11, _, hG => exact hG
          | 12, _, _ => trivial
          | 13, _, _ => trivial
          | 14, _, _ => trivial
          | 15, _, _ => trivial
          | 16, _, _ => trivial
          | 17, _, _ => trivial
          | 18, _, _ => trivial
          | 19, _, _ => trivial
          | 20, _, _ => trivial
          | 21, _, _ => trivial
          | 22, _, hG => exact hG
          | 23, _, hG => exact hG
          | _ + 24, _, _ => trivial
        · intro i op ho act wA hR hF hD
          have sz : act.tmps.size = 36 := hF.size
          match i, ho, hD with
          | 0, ho, hD =>
            cases ho
            have e0 := slot_tmps (show slotOf act 0 = .slice a l.length c from hF.slot 0 (by kernel_rfl))
            refine rgw_val (wanted_none rfl) (.slice a l.length c) (by simp [go_sem, e0]) (BR.refl _) ?_
            exact congrArg (fun v => [v]) (slotOf_same act 12 _ (by omega))
          | 1, ho, hD =>
            cases ho
            have e5 := slot_tmps (show slotOf act 5 = i64 k from hF.slot 5 (by kernel_rfl))
            refine rgw_val (wanted_none rfl) (i64 k) (by simp [go_sem, e5]) (BR.refl _) ?_
            exact congrArg (fun v => [v]) (slotOf_same act 13 _ (by omega))
          | 2, ho, hD =>
            cases ho
            have e12 := slot_tmps (List.cons.inj (hD 0 (by decide))).1
            have e13 := slot_tmps (List.cons.inj (hD 1 (by decide))).1
            refine rgw_val (wanted_none rfl) (.pointer (some ⟨b, o + k, none⟩)) (by simp [go_sem, e12, e13, hi1]) (BR.refl _) ?_
            exact congrArg (fun v => [v]) (slotOf_same act 14 _ (by omega))
          | 3, ho, hD =>
            cases ho
            have e14 := slot_tmps (List.cons.inj (hD 2 (by decide))).1
            have hlA := hl1.same (Same.mono (Same.of_below hR) (Nat.le_trans hn hbw.size))
            have hcA := hlA.cell k hlt
            refine rgw_val (wanted_none rfl) (i64 l[k]) (by simp [go_sem, e14, hcA]) (BR.refl _) ?_
            exact congrArg (fun v => [v]) (slotOf_same act 15 _ (by omega))
          | 4, ho, hD =>
            cases ho
            have e1 := slot_tmps (show slotOf act 1 = i64 m from hF.slot 1 (by kernel_rfl))
            refine rgw_val (wanted_none rfl) (i64 m) (by simp [go_sem, e1]) (BR.refl _) ?_
            exact congrArg (fun v => [v]) (slotOf_same act 16 _ (by omega))
          | 5, ho, hD =>
            cases ho
            have e16 := slot_tmps (List.cons.inj (hD 4 (by decide))).1
            refine rgw_val (wanted_none rfl) (i64 ((m : Int) - 1)) (by simp [go_sem, e16, wrap_fit hw1 hw2]) (BR.refl _) ?_
            exact congrArg (fun v => [v]) (slotOf_same act 17 _ (by omega))
          | 6, ho, hD =>
            cases ho
            have e15 := slot_tmps (List.cons.inj (hD 3 (by decide))).1
            have e17 := slot_tmps (List.cons.inj (hD 5 (by decide))).1
            refine rgw_call (wanted_none rfl) 31 #[i64 l[k], i64 0, i64 ((m : Int) - 1)] (by simp [go_sem, e15, e17]) rfl ?_
            refine (inside_any _ _ _ _).mono ?_
            rintro e wB ⟨rfl, rfl⟩
            exact ⟨_, rfl, BR.refl _, congrArg (fun v => [v]) (by rw [hin.out]; exact slotOf_same act 18 _ (by omega))⟩
          | 7, ho, hD =>
            cases ho
            have e18 := slot_tmps (List.cons.inj (hD 6 (by decide))).1
            refine rgw_val (wanted_none rfl) (.bool false) (by simp [go_sem, e18]) (BR.refl _) ?_
            exact congrArg (fun v => [v]) (slotOf_same act 19 _ (by omega))
          | 8, ho, hD =>
            cases ho
            have e19 := slot_tmps (List.cons.inj (hD 7 (by decide))).1
            refine rgw_val (wanted_none rfl) (.bool false) (by simp [go_sem, e19]) (BR.refl _) ?_
            exact congrArg (fun v => [v]) (slotOf_same act 20 _ (by omega))
          | 9, ho, hD =>
            cases ho
            have dj : slotOf act 20 = .bool false := (List.cons.inj (hD 8 (by decide))).1
            have e5 := slot_tmps (show slotOf act 5 = i64 k from hF.slot 5 (by kernel_rfl))
            refine rgw_val (by rw [wanted_of (d := 20) rfl rfl dj]; rfl) (i64 k) (by simp [go_sem, e5]) (BR.refl _) ?_
            exact congrArg (fun v => [v]) (slotOf_same act 21 _ (by omega))
          | 10, ho, hD =>
            cases ho
            have dj : slotOf act 20 = .bool false := (List.cons.inj (hD 8 (by decide))).1
            have e21 := slot_tmps (List.cons.inj (hD 9 (by decide))).1
            refine rgw_val (by rw [wanted_of (d := 20) rfl rfl dj]; rfl) (.bool false) (by simp [go_sem, e21, hk0]) (BR.refl _) ?_
            exact congrArg (fun v => [v]) (slotOf_same act 22 _ (by omega))
          | 11, ho, hD =>
            cases ho
            have dj : slotOf act 20 = .bool false := (List.cons.inj (hD 8 (by decide))).1
            have e22 := slot_tmps (List.cons.inj (hD 10 (by decide))).1
            refine rgw_val (by rw [wanted_of (d := 20) rfl rfl dj]; rfl) (.bool false) (by simp [go_sem, e22]) (BR.refl _) ?_
            exact congrArg (fun v => [v]) (slotOf_same act 23 _ (by omega))
          | 12, ho, hD =>
            cases ho
            have dj : slotOf act 23 = .bool false := (List.cons.inj (hD 11 (by decide))).1
            refine rgw_skip (by rw [wanted_of (d := 23) rfl rfl dj]; rfl) ?_
            trivial
          | 13, ho, hD =>
            cases ho
            have dj : slotOf act 23 = .bool false := (List.cons.inj (hD 11 (by decide))).1
            refine rgw_skip (by rw [wanted_of (d := 23) rfl rfl dj]; rfl) ?_
            trivial
          | 14, ho, hD =>
            cases ho
            have dj : slotOf act 23 = .bool false := (List.cons.inj (hD 11 (by decide))).1
            refine rgw_skip (by rw [wanted_of (d := 23) rfl rfl dj]; rfl) ?_
            trivial
          | 15, ho, hD =>
            cases ho
            have dj : slotOf act 23 = .bool false := (List.cons.inj (hD 11 (by decide))).1
            refine rgw_skip (by rw [wanted_of (d := 23) rfl rfl dj]; rfl) ?_
            trivial
          | 16, ho, hD =>
            cases ho
            have dj : slotOf act 23 = .bool false := (List.cons.inj (hD 11 (by decide))).1
            refine rgw_skip (by rw [wanted_of (d := 23) rfl rfl dj]; rfl) ?_
            trivial
          | 17, ho, hD =>
            cases ho
            have dj : slotOf act 23 = .bool false := (List.cons.inj (hD 11 (by decide))).1
            refine rgw_skip (by rw [wanted_of (d := 23) rfl rfl dj]; rfl) ?_
            trivial
          | 18, ho, hD =>
            cases ho
            have dj : slotOf act 23 = .bool false := (List.cons.inj (hD 11 (by decide))).1
            refine rgw_skip (by rw [wanted_of (d := 23) rfl rfl dj]; rfl) ?_
            trivial
          | 19, ho, hD =>
            cases ho
            have dj : slotOf act 23 = .bool false := (List.cons.inj (hD 11 (by decide))).1
            refine rgw_skip (by rw [wanted_of (d := 23) rfl rfl dj]; rfl) ?_
            trivial
          | 20, ho, hD =>
            cases ho
            have dj : slotOf act 23 = .bool false := (List.cons.inj (hD 11 (by decide))).1
            refine rgw_skip (by rw [wanted_of (d := 23) rfl rfl dj]; rfl) ?_
            trivial
          | 21, ho, hD =>
            cases ho
            have dj : slotOf act 23 = .bool false := (List.cons.inj (hD 11 (by decide))).1
            refine rgw_skip (by rw [wanted_of (d := 23) rfl rfl dj]; rfl) ?_
            trivial
          | 22, ho, hD =>
            cases ho
            have dj : slotOf act 20 = .bool false := (List.cons.inj (hD 8 (by decide))).1
            have e23 := slot_tmps (List.cons.inj (hD 11 (by decide))).1
            refine rgw_val (by rw [wanted_of (d := 20) rfl rfl dj]; rfl) (.bool false) (by simp [go_sem, e23]) (BR.refl _) ?_
            exact congrArg (fun v => [v]) (slotOf_same act 34 _ (by omega))
          | 23, ho, hD =>
            cases ho
            have e20 := slot_tmps (List.cons.inj (hD 8 (by decide))).1
            have e34 := slot_tmps (List.cons.inj (hD 22 (by decide))).1
            refine rgw_val (wanted_none rfl) (.bool false) (by simp [go_sem, e20, e34]) (BR.refl _) ?_
            exact congrArg (fun v => [v]) (slotOf_same act 35 _ (by omega))
          | _ + 24, ho, _ => cases ho
        · intro act wA hR hF hA
          have f0 : slotOf act 0 = .slice a l.length c := hF.slot 0 (by kernel_rfl)
          have f1 : slotOf act 1 = i64 m := hF.slot 1 (by kernel_rfl)
          have f2 : slotOf act 2 = undef := hF.slot 2 (by kernel_rfl)
          have f3 : slotOf act 3 = undef := hF.slot 3 (by kernel_rfl)
          have f5 : slotOf act 5 = i64 k := hF.slot 5 (by kernel_rfl)
          have f12 : slotOf act 12 = .slice a l.length c := (List.cons.inj (hA 0 (by decide))).1
          have f13 : slotOf act 13 = i64 k := (List.cons.inj (hA 1 (by decide))).1
          have f14 : slotOf act 14 = .pointer (some ⟨b, o + k, none⟩) := (List.cons.inj (hA 2 (by decide))).1
          have f15 : slotOf act 15 = i64 l[k] := (List.cons.inj (hA 3 (by decide))).1
          have f16 : slotOf act 16 = i64 m := (List.cons.inj (hA 4 (by decide))).1
          have f17 : slotOf act 17 = i64 ((m : Int) - 1) := (List.cons.inj (hA 5 (by decide))).1
          have f18 : slotOf act 18 = .bool true := (List.cons.inj (hA 6 (by decide))).1
          have f19 : slotOf act 19 = .bool false := (List.cons.inj (hA 7 (by decide))).1
          have f20 : slotOf act 20 = .bool false := (List.cons.inj (hA 8 (by decide))).1
          have f21 : slotOf act 21 = i64 k := (List.cons.inj (hA 9 (by decide))).1
          have f22 : slotOf act 22 = .bool false := (List.cons.inj (hA 10 (by decide))).1
          have f23 : slotOf act 23 = .bool false := (List.cons.inj (hA 11 (by decide))).1
          have f34 : slotOf act 34 = .bool false := (List.cons.inj (hA 22 (by decide))).1
          have f35 : slotOf act 35 = .bool false := (List.cons.inj (hA 23 (by decide))).1
          rw [act_eta act 36 hF.size hF.defers]
          simp only [show List.range 36 = [0, 1, 2, 3, 4, 5, 6, 7, 8, 9, 10, 11, 12, 13, 14, 15, 16, 17, 18, 19, 20, 21, 22, 23, 24, 25, 26, 27, 28, 29, 30, 31, 32, 33, 34, 35] from rfl, List.map_cons, List.map_nil, f0, f1, f2, f3, f5, f12, f13, f14, f15, f16, f17, f18, f19, f20, f21, f22, f23, f34, f35]
          clear hA hF f0 f1 f2 f3 f5 f12 f13 f14 f15 f16 f17 f18 f19 f20 f21 f22 f23 f34 f35
          have hbA := hbw.trans (Below.mono hR hbw.size)
          go_wp2_with fail
          go_roundw
          case rel =>
            first
              | exact ⟨k + 1, by omega, by go_num, hbA⟩
              | ((repeat apply Exists.intro); refine ⟨?_, rfl⟩; exact ⟨k + 1, by omega, by go_num, hbA⟩)
          case measure => simp [intOf]; omega
      · have hk0 : 0 < k := h0
        have hw3 : -9223372036854775808 ≤ (k : Int) - 1 := by omega
        have hw4 : (k : Int) - 1 ≤ 9223372036854775807 := by omega
        have hi2 : ∀ W, (Instr.indexAt 40 (.slice a l.length c) (.int .i64 ((k : Int) - 1))).run Tryd.prog W = .ok (.pointer (some ⟨b, o + (k - 1), none⟩)) W := fun W => by
          have := idx40 (n := l.length) (c := c) (k := k - 1) W (hl1.at_ (ne_nil_of_lt hlt)) (by omega)
          rwa [show ((k - 1 : Nat) : Int) = (k : Int) - 1 by omega] at this
        have hlt3 : l[k - 1]'(by omega) < l[k] := List.pairwise_iff_getElem.1 hr.1 (k - 1) k (by omega) hlt (by omega)
        go_wp2_with fail
        refine rg_region rdClP pureClP (gClP b o a c m k l hlt) BR (by kernel_rfl) (by kernel_rfl) (fun n => BR.drawn _ n) BR.refl (fun _ _ _ => BR.trans) ?_ ?_ ?_
        · intro i hi vs wA wB hG hR
          match i, hi, hG with
          | 0, _, hG => exact hG
          | 1, _, hG => exact hG
          | 2, _, hG => exact hG
          | 3, _, hG => exact hG
          | 4, _, hG => exact hG
          | 5, _, hG => exact hG
          | 6, _, hG => exact hG
          | 7, _, hG => exact hG
          | 8, _, hG => exact hG
          | 9, _, hG => exact hG
          | 10, _, hG => exact hG
          | 11, _, hG => exact hG
          | 12, _, hG => exact hG
          | 13, _, hG => exact hG
          | 14, _, hG => exact hG
          | 15, _, hG => exact hG
          | 16, _, hG => exact hG
          | 17, _, hG => exact hG
          | 18, _, hG => exact hG
          | 19, _, hG => exact hG
          | 20, _, hG => exact hG
          | 21, _, hG => exact hG
          | 22, _, hG => exact hG
          | 23, _, hG => exact hG
          | _ + 24, _, _ => trivial
        · intro i op ho act wA hR hF hD
          have sz : act.tmps.size = 36 := hF.size
          match i, ho, hD with
          | 0, ho, hD =>
            cases ho
            have e0 := slot_tmps (show slotOf act 0 = .slice a l.length c from hF.slot 0 (by kernel_rfl))
            refine rgw_val (wanted_none rfl) (.slice a l.length c) (by simp [go_sem, e0]) (BR.refl _) ?_
            exact congrArg (fun v => [v]) (slotOf_same act 12 _ (by omega))
          | 1, ho, hD =>
            cases ho
            have e5 := slot_tmps (show slotOf act 5 = i64 k from hF.slot 5 (by kernel_rfl))
            refine rgw_val (wanted_none rfl) (i64 k) (by simp [go_sem, e5]) (BR.refl _) ?_
            exact congrArg (fun v => [v]) (slotOf_same act 13 _ (by omega))
          | 2, ho, hD =>
            cases ho
            have e12 := slot_tmps (List.cons.inj (hD 0 (by decide))).1
            have e13 := slot_tmps (List.cons.inj (hD 1 (by decide))).1
            refine rgw_val (wanted_none rfl) (.pointer (some ⟨b, o + k, none⟩)) (by simp [go_sem, e12, e13, hi1]) (BR.refl _) ?_
            exact congrArg (fun v => [v]) (slotOf_same act 14 _ (by omega))
          | 3, ho, hD =>
            cases ho
            have e14 := slot_tmps (List.cons.inj (hD 2 (by decide))).1
            have hlA := hl1.same (Same.mono (Same.of_below hR) (Nat.le_trans hn hbw.size))
            have hcA := hlA.cell k hlt
            refine rgw_val (wanted_none rfl) (i64 l[k]) (by simp [go_sem, e14, hcA]) (BR.refl _) ?_
            exact congrArg (fun v => [v]) (slotOf_same act 15 _ (by omega))
          | 4, ho, hD =>
            cases ho
            have e1 := slot_tmps (show slotOf act 1 = i64 m from hF.slot 1 (by kernel_rfl))
            refine rgw_val (wanted_none rfl) (i64 m) (by simp [go_sem, e1]) (BR.refl _) ?_
            exact congrArg (fun v => [v]) (slotOf_same act 16 _ (by omega))
          | 5, ho, hD =>
            cases ho
            have e16 := slot_tmps (List.cons.inj (hD 4 (by decide))).1
            refine rgw_val (wanted_none rfl) (i64 ((m : Int) - 1)) (by simp [go_sem, e16, wrap_fit hw1 hw2]) (BR.refl _) ?_
            exact congrArg (fun v => [v]) (slotOf_same act 17 _ (by omega))
          | 6, ho, hD =>
            cases ho
            have e15 := slot_tmps (List.cons.inj (hD 3 (by decide))).1
            have e17 := slot_tmps (List.cons.inj (hD 5 (by decide))).1
            refine rgw_call (wanted_none rfl) 31 #[i64 l[k], i64 0, i64 ((m : Int) - 1)] (by simp [go_sem, e15, e17]) rfl ?_
            refine (inside_any _ _ _ _).mono ?_
            rintro e wB ⟨rfl, rfl⟩
            exact ⟨_, rfl, BR.refl _, congrArg (fun v => [v]) (by rw [hin.out]; exact slotOf_same act 18 _ (by omega))⟩
          | 7, ho, hD =>
            cases ho
            have e18 := slot_tmps (List.cons.inj (hD 6 (by decide))).1
            refine rgw_val (wanted_none rfl) (.bool false) (by simp [go_sem, e18]) (BR.refl _) ?_
            exact congrArg (fun v => [v]) (slotOf_same act 19 _ (by omega))
          | 8, ho, hD =>
            cases ho
            have e19 := slot_tmps (List.cons.inj (hD 7 (by decide))).1
            refine rgw_val (wanted_none rfl) (.bool false) (by simp [go_sem, e19]) (BR.refl _) ?_
            exact congrArg (fun v => [v]) (slotOf_same act 20 _ (by omega))
          | 9, ho, hD =>
            cases ho
            have dj : slotOf act 20 = .bool false := (List.cons.inj (hD 8 (by decide))).1
            have e5 := slot_tmps (show slotOf act 5 = i64 k from hF.slot 5 (by kernel_rfl))
            refine rgw_val (by rw [wanted_of (d := 20) rfl rfl dj]; rfl) (i64 k) (by simp [go_sem, e5]) (BR.refl _) ?_
            exact congrArg (fun v => [v]) (slotOf_same act 21 _ (by omega))
          | 10, ho, hD =>
            cases ho
            have dj : slotOf act 20 = .bool false := (List.cons.inj (hD 8 (by decide))).1
            have e21 := slot_tmps (List.cons.inj (hD 9 (by decide))).1
            refine rgw_val (by rw [wanted_of (d := 20) rfl rfl dj]; rfl) (.bool true) (by simp [go_sem, e21, hk0]) (BR.refl _) ?_
            exact congrArg (fun v => [v]) (slotOf_same act 22 _ (by omega))
          | 11, ho, hD =>
            cases ho
            have dj : slotOf act 20 = .bool false := (List.cons.inj (hD 8 (by decide))).1
            have e22 := slot_tmps (List.cons.inj (hD 10 (by decide))).1
            refine rgw_val (by rw [wanted_of (d := 20) rfl rfl dj]; rfl) (.bool true) (by simp [go_sem, e22]) (BR.refl _) ?_
            exact congrArg (fun v => [v]) (slotOf_same act 23 _ (by omega))
          | 12, ho, hD =>
            cases ho
            have dj : slotOf act 23 = .bool true := (List.cons.inj (hD 11 (by decide))).1
            have e0 := slot_tmps (show slotOf act 0 = .slice a l.length c from hF.slot 0 (by kernel_rfl))
            refine rgw_val (by rw [wanted_of (d := 23) rfl rfl dj]; rfl) (.slice a l.length c) (by simp [go_sem, e0]) (BR.refl _) ?_
            exact congrArg (fun v => [v]) (slotOf_same act 24 _ (by omega))
          | 13, ho, hD =>
            cases ho
            have dj : slotOf act 23 = .bool true := (List.cons.inj (hD 11 (by decide))).1
            have e5 := slot_tmps (show slotOf act 5 = i64 k from hF.slot 5 (by kernel_rfl))
            refine rgw_val (by rw [wanted_of (d := 23) rfl rfl dj]; rfl) (i64 k) (by simp [go_sem, e5]) (BR.refl _) ?_
            exact congrArg (fun v => [v]) (slotOf_same act 25 _ (by omega))
          | 14, ho, hD =>
            cases ho
            have dj : slotOf act 23 = .bool true := (List.cons.inj (hD 11 (by decide))).1
            have e24 := slot_tmps (List.cons.inj (hD 12 (by decide))).1
            have e25 := slot_tmps (List.cons.inj (hD 13 (by decide))).1
            refine rgw_val (by rw [wanted_of (d := 23) rfl rfl dj]; rfl) (.pointer (some ⟨b, o + k, none⟩)) (by simp [go_sem, e24, e25, hi1]) (BR.refl _) ?_
            exact congrArg (fun v => [v]) (slotOf_same act 26 _ (by omega))
          | 15, ho, hD =>
            cases ho
            have dj : slotOf act 23 = .bool true := (List.cons.inj (hD 11 (by decide))).1
            have e26 := slot_tmps (List.cons.inj (hD 14 (by decide))).1
            have hlA := hl1.same (Same.mono (Same.of_below hR) (Nat.le_trans hn hbw.size))
            have hcA := hlA.cell k hlt
            refine rgw_val (by rw [wanted_of (d := 23) rfl rfl dj]; rfl) (i64 l[k]) (by simp [go_sem, e26, hcA]) (BR.refl _) ?_
            exact congrArg (fun v => [v]) (slotOf_same act 27 _ (by omega))
          | 16, ho, hD =>
            cases ho
            have dj : slotOf act 23 = .bool true := (List.cons.inj (hD 11 (by decide))).1
            have e0 := slot_tmps (show slotOf act 0 = .slice a l.length c from hF.slot 0 (by kernel_rfl))
            refine rgw_val (by rw [wanted_of (d := 23) rfl rfl dj]; rfl) (.slice a l.length c) (by simp [go_sem, e0]) (BR.refl _) ?_
            exact congrArg (fun v => [v]) (slotOf_same act 28 _ (by omega))
          | 17, ho, hD =>
            cases ho
            have dj : slotOf act 23 = .bool true := (List.cons.inj (hD 11 (by decide))).1
            have e5 := slot_tmps (show slotOf act 5 = i64 k from hF.slot 5 (by kernel_rfl))
            refine rgw_val (by rw [wanted_of (d := 23) rfl rfl dj]; rfl) (i64 k) (by simp [go_sem, e5]) (BR.refl _) ?_
            exact congrArg (fun v => [v]) (slotOf_same act 29 _ (by omega))
          | 18, ho, hD =>
            cases ho
            have dj : slotOf act 23 = .bool true := (List.cons.inj (hD 11 (by decide))).1
            have e29 := slot_tmps (List.cons.inj (hD 17 (by decide))).1
            refine rgw_val (by rw [wanted_of (d := 23) rfl rfl dj]; rfl) (i64 ((k : Int) - 1)) (by simp [go_sem, e29, wrap_fit hw3 hw4]) (BR.refl _) ?_
            exact congrArg (fun v => [v]) (slotOf_same act 30 _ (by omega))
          | 19, ho, hD =>
            cases ho
            have dj : slotOf act 23 = .bool true := (List.cons.inj (hD 11 (by decide))).1
            have e28 := slot_tmps (List.cons.inj (hD 16 (by decide))).1
            have e30 := slot_tmps (List.cons.inj (hD 18 (by decide))).1
            refine rgw_val (by rw [wanted_of (d := 23) rfl rfl dj]; rfl) (.pointer (some ⟨b, o + (k - 1), none⟩)) (by simp [go_sem, e28, e30, hi2]) (BR.refl _) ?_
            exact congrArg (fun v => [v]) (slotOf_same act 31 _ (by omega))
          | 20, ho, hD =>
            cases ho
            have dj : slotOf act 23 = .bool true := (List.cons.inj (hD 11 (by decide))).1
            have e31 := slot_tmps (List.cons.inj (hD 19 (by decide))).1
            have hlA := hl1.same (Same.mono (Same.of_below hR) (Nat.le_trans hn hbw.size))
            have hcB := hlA.cell (k - 1) (by omega)
            refine rgw_val (by rw [wanted_of (d := 23) rfl rfl dj]; rfl) (i64 (l[k - 1]'(by omega))) (by simp [go_sem, e31, hcB]) (BR.refl _) ?_
            exact congrArg (fun v => [v]) (slotOf_same act 32 _ (by omega))
          | 21, ho, hD =>
            cases ho
            have dj : slotOf act 23 = .bool true := (List.cons.inj (hD 11 (by decide))).1
            have e27 := slot_tmps (List.cons.inj (hD 15 (by decide))).1
            have e32 := slot_tmps (List.cons.inj (hD 20 (by decide))).1
            refine rgw_val (by rw [wanted_of (d := 23) rfl rfl dj]; rfl) (.bool false) (by simp [go_sem, e27, e32, hlt3]) (BR.refl _) ?_
            exact congrArg (fun v => [v]) (slotOf_same act 33 _ (by omega))
          | 22, ho, hD =>
            cases ho
            have dj : slotOf act 20 = .bool false := (List.cons.inj (hD 8 (by decide))).1
            have e23 := slot_tmps (List.cons.inj (hD 11 (by decide))).1
            have e33 := slot_tmps (List.cons.inj (hD 21 (by decide))).1
            refine rgw_val (by rw [wanted_of (d := 20) rfl rfl dj]; rfl) (.bool false) (by simp [go_sem, e23, e33]) (BR.refl _) ?_
            exact congrArg (fun v => [v]) (slotOf_same act 34 _ (by omega))
          | 23, ho, hD =>
            cases ho
            have e20 := slot_tmps (List.cons.inj (hD 8 (by decide))).1
            have e34 := slot_tmps (List.cons.inj (hD 22 (by decide))).1
            refine rgw_val (wanted_none rfl) (.bool false) (by simp [go_sem, e20, e34]) (BR.refl _) ?_
            exact congrArg (fun v => [v]) (slotOf_same act 35 _ (by omega))
          | _ + 24, ho, _ => cases ho
        · intro act wA hR hF hA
          have f0 : slotOf act 0 = .slice a l.length c := hF.slot 0 (by kernel_rfl)
          have f1 : slotOf act 1 = i64 m := hF.slot 1 (by kernel_rfl)
          have f2 : slotOf act 2 = undef := hF.slot 2 (by kernel_rfl)
          have f3 : slotOf act 3 = undef := hF.slot 3 (by kernel_rfl)
          have f5 : slotOf act 5 = i64 k := hF.slot 5 (by kernel_rfl)
          have f12 : slotOf act 12 = .slice a l.length c := (List.cons.inj (hA 0 (by decide))).1
          have f13 : slotOf act 13 = i64 k := (List.cons.inj (hA 1 (by decide))).1
          have f14 : slotOf act 14 = .pointer (some ⟨b, o + k, none⟩) := (List.cons.inj (hA 2 (by decide))).1
          have f15 : slotOf act 15 = i64 l[k] := (List.cons.inj (hA 3 (by decide))).1
          have f16 : slotOf act 16 = i64 m := (List.cons.inj (hA 4 (by decide))).1
          have f17 : slotOf act 17 = i64 ((m : Int) - 1) := (List.cons.inj (hA 5 (by decide))).1
          have f18 : slotOf act 18 = .bool true := (List.cons.inj (hA 6 (by decide))).1
          have f19 : slotOf act 19 = .bool false := (List.cons.inj (hA 7 (by decide))).1
          have f20 : slotOf act 20 = .bool false := (List.cons.inj (hA 8 (by decide))).1
          have f21 : slotOf act 21 = i64 k := (List.cons.inj (hA 9 (by decide))).1
          have f22 : slotOf act 22 = .bool true := (List.cons.inj (hA 10 (by decide))).1
          have f23 : slotOf act 23 = .bool true := (List.cons.inj (hA 11 (by decide))).1
          have f24 : slotOf act 24 = .slice a l.length c := (List.cons.inj (hA 12 (by decide))).1
          have f25 : slotOf act 25 = i64 k := (List.cons.inj (hA 13 (by decide))).1
          have f26 : slotOf act 26 = .pointer (some ⟨b, o + k, none⟩) := (List.cons.inj (hA 14 (by decide))).1
          have f27 : slotOf act 27 = i64 l[k] := (List.cons.inj (hA 15 (by decide))).1
          have f28 : slotOf act 28 = .slice a l.length c := (List.cons.inj (hA 16 (by decide))).1
          have f29 : slotOf act 29 = i64 k := (List.cons.inj (hA 17 (by decide))).1
          have f30 : slotOf act 30 = i64 ((k : Int) - 1) := (List.cons.inj (hA 18 (by decide))).1
          have f31 : slotOf act 31 = .pointer (some ⟨b, o + (k - 1), none⟩) := (List.cons.inj (hA 19 (by decide))).1
          have f32 : slotOf act 32 = i64 (l[k - 1]'(by omega)) := (List.cons.inj (hA 20 (by decide))).1
          have f33 : slotOf act 33 = .bool false := (List.cons.inj (hA 21 (by decide))).1
          have f34 : slotOf act 34 = .bool false := (List.cons.inj (hA 22 (by decide))).1
          have f35 : slotOf act 35 = .bool false := (List.cons.inj (hA 23 (by decide))).1
          rw [act_eta act 36 hF.size hF.defers]
          simp only [show List.range 36 = [0, 1, 2, 3, 4, 5, 6, 7, 8, 9, 10, 11, 12, 13, 14, 15, 16, 17, 18, 19, 20, 21, 22, 23, 24, 25, 26, 27, 28, 29, 30, 31, 32, 33, 34, 35] from rfl, List.map_cons, List.map_nil, f0, f1, f2, f3, f5, f12, f13, f14, f15, f16, f17, f18, f19, f20, f21, f22, f23, f24, f25, f26, f27, f28, f29, f30, f31, f32, f33, f34, f35]
          clear hA hF f0 f1 f2 f3 f5 f12 f13 f14 f15 f16 f17 f18 f19 f20 f21 f22 f23 f24 f25 f26 f27 f28 f29 f30 f31 f32 f33 f34 f35
          have hbA := hbw.trans (Below.mono hR hbw.size)
          go_wp2_with fail
          go_roundw
          case rel =>
            first
              | exact ⟨k + 1, by omega, by go_num, hbA⟩
              | ((repeat apply Exists.intro); refine ⟨?_, rfl⟩; exact ⟨k + 1, by omega, by go_num, hbA⟩)
          case measure => simp [intOf]; omega
    · have hlt' : ¬ (k : Int) < (l.length : Int) := by omega
      go_wp2_with fail
      go_ret
      exact ⟨rfl, hbw⟩
end Go.Proofs.YtkbmpkdflgimmaaDoor
