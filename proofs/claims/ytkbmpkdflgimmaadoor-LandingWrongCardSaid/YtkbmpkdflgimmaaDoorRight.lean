/- The contract of (book).right: whether all soundings of an hour are right, with a height and bottoms. -/
import Derived.Test.YtkbmpkdflgimmaaDoorPMap
import Derived.Deep.LoopGhost
namespace Go.Proofs.YtkbmpkdflgimmaaDoor
open Go.RowKit

abbrev calcVal (B : Book) (ta : Option Addr) (tc : Nat) (sa : Option Addr) (sc : Nat) (m : Nat) (cv : Value) : Value :=
  .agg #[.slice ta B.tides.length tc, i64 B.s0.fl, i64 B.s0.fh, i64 B.s0.lo, i64 B.s0.hi, i64 B.s1.fl, i64 B.s1.fh, i64 B.s1.lo, i64 B.s1.hi, i64 B.el, i64 B.eh, i64 B.sink, i64 B.under, .slice sa B.sounds.length sc, .map (some m), cv]
abbrev calcCells (B : Book) (ta : Option Addr) (tc : Nat) (sa : Option Addr) (sc : Nat) (m : Nat) (cv : Value) : Array Value :=
  #[.slice ta B.tides.length tc, i64 B.s0.fl, i64 B.s0.fh, i64 B.s0.lo, i64 B.s0.hi, i64 B.s1.fl, i64 B.s1.fh, i64 B.s1.lo, i64 B.s1.hi, i64 B.el, i64 B.eh, i64 B.sink, i64 B.under, .slice sa B.sounds.length sc, .map (some m), cv]
def rightB (D : Int → Int → List Int) (hour h f0 f1 : Int) : Bool := (D hour 0).all (fun n => h - f0 == n) && (D hour 1).all (fun n => h - f1 == n)

set_option maxRecDepth 100000 in
set_option maxHeartbeats 1000000 in
theorem right_any (B : Book) (ta : Option Addr) (tc : Nat) (sa : Option Addr) (sc m : Nat) (can : Option Addr) (cn cc : Nat) (D : Int → Int → List Int) (hour h f0 f1 : Int) (n : Nat) (w : World)
    (hm : MapIn n w m D) (hn : n ≤ w.heap.size) (h1 : -1000 ≤ h) (h2 : h ≤ 1000) (h3 : -1000 ≤ f0) (h4 : f0 ≤ 1000) (h5 : -1000 ≤ f1) (h6 : f1 ≤ 1000) :
    Calls Tryd.prog 98 #[calcVal B ta tc sa sc m (.slice can cn cc), i64 hour, i64 h, .agg #[i64 f0, i64 f1]] w fun e w' => e = .returned (.bool (rightB D hour h f0 f1)) ∧ Below w.heap.size w w' := by
  have hmB := Lib.hid hm
  go_enter Tryd.func98, Tryd.ntmps98
  go_wp2_with fail
  have hB2 := ((Below.refl w.heap.size w).alloc (Nat.le_refl _) (.cells (calcCells B ta tc sa sc m (.slice can cn cc)) 93)).alloc (by simp) (.cells #[i64 f0, i64 f1] 99)
  have hm2 := hmB.out.same ((Same.of_below hB2).mono hn)
  clear hm
  go_loop [14] (fun i => ∃ k : Nat, k ≤ 2 ∧ i = .int .i64 k ∧ Hid ((0 < k → (D hour 0).all (fun n => h - f0 == n) = true) ∧ (1 < k → (D hour 1).all (fun n => h - f1 == n) = true))) (fun i => 2 - (intOf i).toNat)
  case atStart => exact ⟨0, by omega, rfl, by simp [Hid]⟩
  case round =>
    obtain ⟨k, hk, rfl, hdone⟩ := hrel
    rcases (by omega : k = 0 ∨ k = 1 ∨ k = 2) with rfl | rfl | rfl
    · have hi99 := ix99_0 f0 f1
      obtain ⟨b, o, a, c, hl, hI⟩ := hm2.look hour 0
      have hI1 := hI.len
      go_wp2_with fail
      go_loop [25] (fun i => ∃ j : Nat, j ≤ (D hour 0).length ∧ i = .int .i64 j ∧ Hid (((D hour 0).take j).all (fun n => h - f0 == n) = true)) (fun i => (D hour 0).length - (intOf i).toNat)
      case atStart => exact ⟨0, Nat.zero_le _, rfl, by simp [Hid]⟩
      case round =>
        obtain ⟨j, hj, rfl, hall⟩ := hrel
        by_cases hlt : j < (D hour 0).length
        · have hnn := ne_nil_of_lt hlt
          have hidx := idx40 (n := (D hour 0).length) (c := c) (k := j) ((w.alloc (.cells (calcCells B ta tc sa sc m (.slice can cn cc)) 93)).alloc (.cells #[i64 f0, i64 f1] 99)) (hI.at_ hnn) hlt
          have hc := hI.cell j hlt
          have hs := Lib.hid (all_take_succ (fun n => h - f0 == n) (D hour 0) j hlt)
          by_cases he : h - f0 = (D hour 0)[j]
          · have he' : ((h - f0 != (D hour 0)[j]) = false) := by simp [he]
            have he := Lib.hid he
            go_wp2_with fail
            go_round
            case rel => exact ⟨j + 1, by omega, by go_num, by show _ = _; rw [hs.out, hall.out]; simp [he.out]⟩
            case measure => simp [intOf]; omega
          · have he' : ((h - f0 != (D hour 0)[j]) = true) := by simp [he]
            have he := Lib.hid he
            have fin : Hid (rightB D hour h f0 f1 = false) := by
              show _ = _
              have : (D hour 0).all (fun n => h - f0 == n) = false := by
                rw [List.all_eq_false]
                exact ⟨(D hour 0)[j], List.getElem_mem _, by simpa using he.out⟩
              simp [rightB, this]
            go_wp2_with fail
            go_ret
            exact ⟨by rw [fin.out]; rfl, hB2⟩
        · have hj' : j = (D hour 0).length := by omega
          subst hj'
          rw [List.take_length] at hall
          go_wp2_with fail
          go_round
          case rel => exact ⟨1, by omega, rfl, by refine ⟨fun _ => hall.out, by omega⟩⟩
          case measure => simp [intOf]
    · have hi99 := ix99_1 f0 f1
      obtain ⟨b, o, a, c, hl, hI⟩ := hm2.look hour 1
      have hI1 := hI.len
      go_wp2_with fail
      go_loop [25] (fun i => ∃ j : Nat, j ≤ (D hour 1).length ∧ i = .int .i64 j ∧ Hid (((D hour 1).take j).all (fun n => h - f1 == n) = true)) (fun i => (D hour 1).length - (intOf i).toNat)
      case atStart => exact ⟨0, Nat.zero_le _, rfl, by simp [Hid]⟩
      case round =>
        obtain ⟨j, hj, rfl, hall⟩ := hrel
        by_cases hlt : j < (D hour 1).length
        · have hnn := ne_nil_of_lt hlt
          have hidx := idx40 (n := (D hour 1).length) (c := c) (k := j) ((w.alloc (.cells (calcCells B ta tc sa sc m (.slice can cn cc)) 93)).alloc (.cells #[i64 f0, i64 f1] 99)) (hI.at_ hnn) hlt
          have hc := hI.cell j hlt
          have hs := Lib.hid (all_take_succ (fun n => h - f1 == n) (D hour 1) j hlt)
          by_cases he : h - f1 = (D hour 1)[j]
          · have he' : ((h - f1 != (D hour 1)[j]) = false) := by simp [he]
            have he := Lib.hid he
            go_wp2_with fail
            go_round
            case rel => exact ⟨j + 1, by omega, by go_num, by show _ = _; rw [hs.out, hall.out]; simp [he.out]⟩
            case measure => simp [intOf]; omega
          · have he' : ((h - f1 != (D hour 1)[j]) = true) := by simp [he]
            have he := Lib.hid he
            have fin : Hid (rightB D hour h f0 f1 = false) := by
              show _ = _
              have : (D hour 1).all (fun n => h - f1 == n) = false := by
                rw [List.all_eq_false]
                exact ⟨(D hour 1)[j], List.getElem_mem _, by simpa using he.out⟩
              simp [rightB, this]
            go_wp2_with fail
            go_ret
            exact ⟨by rw [fin.out]; rfl, hB2⟩
        · have hj' : j = (D hour 1).length := by omega
          subst hj'
          rw [List.take_length] at hall
          go_wp2_with fail
          go_round
          case rel => exact ⟨2, by omega, rfl, by refine ⟨fun _ => hdone.out.1 (by omega), fun _ => hall.out⟩⟩
          case measure => simp [intOf]
    · have fin : Hid (rightB D hour h f0 f1 = true) := by
        show _ = _
        simp [rightB, hdone.out.1 (by omega), hdone.out.2 (by omega)]
      go_wp2_with fail
      go_ret
      exact ⟨by rw [fin.out]; rfl, hB2⟩
end Go.Proofs.YtkbmpkdflgimmaaDoor
