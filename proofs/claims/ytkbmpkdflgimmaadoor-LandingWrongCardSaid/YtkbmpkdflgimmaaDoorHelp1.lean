/- Contracts of the references' small helpers: Inside, Range, Point, Contains, Covers, Mod, Alike. -/
import Derived.Test.YtkbmpkdflgimmaaDoorWrong
import Derived.Deep.QuietTactic
namespace Go.Proofs.YtkbmpkdflgimmaaDoor
open Go.RowKit Go.Shelf

theorem inside_any (n lo hi : Int) (w : World) : Calls Tryd.prog 31 #[i64 n, i64 lo, i64 hi] w fun e w' => e = .returned (.bool (inB n lo hi)) ∧ w = w' := by
  by_cases h1 : lo ≤ n
  · go_enter Tryd.func31, Tryd.ntmps31
    go_wp2
    go_ret
    simp [inB, h1]
  · go_enter Tryd.func31, Tryd.ntmps31
    go_wp2
    go_ret
    simp [inB]
    omega
def RangePost (lo hi : Int) (w : World) (e : Ending) (w' : World) : Prop := e = .returned (.agg #[i64 lo, i64 hi]) ∧ Below w.heap.size w w'
theorem range_any (lo hi : Int) (w : World) : Calls Tryd.prog 48 #[i64 lo, i64 hi] w (RangePost lo hi w) := by
  go_enter Tryd.func48, Tryd.ntmps48
  go_wp2
  exact bodyPost_ret (v := .agg #[i64 lo, i64 hi]) (by simp [results, Tryd.f48, go_sem]) rfl ⟨rfl, (Below.refl _ _).alloc (Nat.le_refl _) _⟩
theorem point_any (n : Int) (w : World) : Calls Tryd.prog 37 #[i64 n] w (RangePost n n w) := by
  have hb0 : Below w.heap.size w (w.alloc (.cells #[i64 0, i64 0] 24)) := (Below.refl _ w).alloc (Nat.le_refl _) _
  have hz0 : (w.alloc (.cells #[i64 0, i64 0] 24)).heap[w.heap.size]? = some (.cells #[i64 0, i64 0] 24 (0, 0)) := heap_alloc_new w _
  go_enter Tryd.func37, Tryd.ntmps37
  go_wp2_with (go_at_call 48; refine (range_any n n _).mono ?_; rintro e w1 ⟨rfl, hb⟩; have hz1 := (hb.block _ (by simp)).trans hz0; have hc := cells_of hz1; have hf := frozen_of hz1; have hl := (Array.getElem?_eq_some_iff.1 hz1).1; have hb1 := hb0.trans (hb.mono (by simp)))
  have hset := set_two1 (set_two0 hz1 (i64 n)) (i64 n)
  have hcs := cells_of hset
  refine bodyPost_ret (v := .agg #[i64 n, i64 n]) (by simp [results, Tryd.f37, go_sem, hcs]) rfl ⟨rfl, ?_⟩
  exact (hb1.setCell (p := ⟨w.heap.size, 0, none⟩) (Nat.le_refl _) _).setCell (p := ⟨w.heap.size, 1, none⟩) (Nat.le_refl _) _
theorem contains24_any (lo hi n : Int) (w : World) : Calls Tryd.prog 30 #[.agg #[i64 lo, i64 hi], i64 n] w fun e w' => e = .returned (.bool (inB n lo hi)) ∧ Below w.heap.size w w' := by
  go_enter Tryd.func30, Tryd.ntmps30
  go_wp2_with (go_at_call 31; refine (inside_any _ _ _ _).mono ?_; rintro e w' ⟨rfl, rfl⟩)
  go_ret
  exact ⟨rfl, (Below.refl _ _).alloc (Nat.le_refl _) _⟩
def coversB (a b c d : Int) : Bool := decide (a ≤ c) && decide (d ≤ b)
theorem covers_any (a b c d : Int) (w : World) : Calls Tryd.prog 38 #[.agg #[i64 a, i64 b], .agg #[i64 c, i64 d]] w fun e w' => e = .returned (.bool (coversB a b c d)) ∧ Below w.heap.size w w' := by
  by_cases h1 : a ≤ c
  · go_enter Tryd.func38, Tryd.ntmps38
    go_wp2
    go_ret
    exact ⟨by simp [coversB, h1], ((Below.refl _ _).alloc (Nat.le_refl _) _).alloc (by simp) _⟩
  · go_enter Tryd.func38, Tryd.ntmps38
    go_wp2
    go_ret
    refine ⟨?_, ((Below.refl _ _).alloc (Nat.le_refl _) _).alloc (by simp) _⟩
    simp [coversB]
    omega
def modI (n m : Int) : Int := if m ≤ 0 then 0 else n % m
theorem modI_lt {n m : Int} (h : 0 < m) : 0 ≤ modI n m ∧ modI n m < m := by
  unfold modI
  rw [if_neg (by omega)]
  exact ⟨Int.emod_nonneg _ (by omega), Int.emod_lt_of_pos _ h⟩
theorem tmod_emod (n m : Int) (h : 0 < m) : (0 ≤ n.tmod m ∧ n.tmod m < m ∧ n % m = n.tmod m) ∨ (n.tmod m < 0 ∧ -m < n.tmod m ∧ n % m = n.tmod m + m) := by
  have h1 := Int.tmod_lt_of_pos n h
  have h2 := Int.lt_tmod_of_pos n h
  have h3 := Int.tmod_add_mul_tdiv n m
  rcases Int.lt_or_le (n.tmod m) 0 with hn | hn
  · right
    refine ⟨hn, h2, (Int.emod_eq_iff (by omega)).2 ⟨by omega, by omega, 1 - n.tdiv m, ?_⟩⟩
    rw [Int.mul_sub, Int.mul_one]
    omega
  · left
    refine ⟨hn, h1, (Int.emod_eq_iff (by omega)).2 ⟨by omega, by omega, - n.tdiv m, ?_⟩⟩
    rw [Int.mul_neg]
    omega
theorem mod_any (n m : Int) (hm : m ≤ 1000000) (w : World) : Calls Tryd.prog 24 #[i64 n, i64 m] w fun e w' => e = .returned (i64 (modI n m)) ∧ w = w' := by
  rcases Int.lt_or_le 0 m with h | h
  · have hq := tmod_emod n m h
    have hm0 : ¬ m ≤ 0 := by omega
    rcases hq with ⟨q1, q2, q3⟩ | ⟨q1, q2, q3⟩
    · have hmi : Hid (modI n m = n.tmod m) := Lib.hid (by unfold modI; rw [if_neg (by omega), q3])
      have hq1 : ¬ n.tmod m < 0 := by omega
      clear q3
      go_enter Tryd.func24, Tryd.ntmps24
      go_wp2
      go_ret
      exact ⟨by rw [hmi.out]; rfl, rfl⟩
    · have hmi : Hid (modI n m = n.tmod m + m) := Lib.hid (by unfold modI; rw [if_neg (by omega), q3])
      clear q3
      go_enter Tryd.func24, Tryd.ntmps24
      go_wp2
      go_ret
      exact ⟨by rw [hmi.out]; rfl, rfl⟩
  · have hmi : Hid (modI n m = 0) := Lib.hid (by unfold modI; rw [if_pos h])
    go_enter Tryd.func24, Tryd.ntmps24
    go_wp2
    go_ret
    exact ⟨by rw [hmi.out]; rfl, rfl⟩
theorem take_eq_succ {l k : List Int} (h : l.length = k.length) (i : Nat) (hi : i < l.length) (ht : l.take i = k.take i) (he : l[i] = k[i]'(by omega)) : l.take (i + 1) = k.take (i + 1) := by
  rw [List.take_succ_eq_append_getElem hi, List.take_succ_eq_append_getElem (by omega), ht, he]
def AlikePost (l k : List Int) (w : World) (e : Ending) (w' : World) : Prop := e = .returned (.bool (l == k)) ∧ Below w.heap.size w w'
set_option maxRecDepth 100000 in
set_option maxHeartbeats 1000000 in
theorem alike_any (n b o b' o' : Nat) (a a' : Option Addr) (c c' : Nat) (l k : List Int) (w : World) (hn : n ≤ w.heap.size) (hl : IntsAt n w b o a l) (hk : IntsAt n w b' o' a' k) :
    Calls Tryd.prog 50 #[.slice a l.length c, .slice a' k.length c'] w (AlikePost l k w) := by
  have h1 := hl.len
  have h2 := hk.len
  by_cases hlen : l.length = k.length
  · have hne : ((l.length : Int) != (k.length : Int)) = false := by simp [hlen]
    have hlen' := Lib.hid hlen
    have hle : l.length ≤ k.length := by omega
    clear hlen
    go_enter Tryd.func50, Tryd.ntmps50
    go_wp2_with fail
    go_loopw [5] (fun i wr => ∃ j : Nat, j ≤ l.length ∧ i = .int .i64 j ∧ Below w.heap.size w wr ∧ Hid (l.take j = k.take j)) (fun i _ => l.length - (intOf i).toNat)
    case atStart => exact ⟨0, Nat.zero_le _, rfl, Below.refl _ _, rfl⟩
    case round =>
      obtain ⟨j, hj, rfl, hbw, htk⟩ := hrel
      by_cases hlt : j < l.length
      · have hlk : j < k.length := by omega
        have hl1 := hl.same ((Same.of_below hbw).mono hn)
        have hk1 := hk.same ((Same.of_below hbw).mono hn)
        have hi1 : ∀ W, (Instr.indexAt 40 (.slice a l.length c) (.int .i64 (j : Int))).run Tryd.prog W = .ok (.pointer (some ⟨b, o + j, none⟩)) W := fun W => idx40 W (hl1.at_ (ne_nil_of_lt hlt)) hlt
        have hi2 : ∀ W, (Instr.indexAt 40 (.slice a' k.length c') (.int .i64 (j : Int))).run Tryd.prog W = .ok (.pointer (some ⟨b', o' + j, none⟩)) W := fun W => idx40 W (hk1.at_ (ne_nil_of_lt hlk)) hlk
        have hc1 := hl1.cell j hlt
        have hc2 := hk1.cell j hlk
        by_cases he : l[j] = k[j]
        · have he' : (l[j] != k[j]) = false := by simp [he]
          have hnext : Hid (l.take (j + 1) = k.take (j + 1)) := take_eq_succ hlen'.out j hlt htk.out he
          clear he
          go_wp2_with fail
          go_quiet (fail)
          go_wp2_with fail
          go_roundw
          case rel => exact ⟨j + 1, by omega, by go_num, ⟨hbw.os, hbw.tape, hbw.output, hbw.size, hbw.block⟩, hnext⟩
          case measure => simp [intOf]; omega
        · have he' : (l[j] != k[j]) = true := by simp [he]
          have hfin : Hid ((l == k) = false) := by
            show _ = _
            rw [beq_eq_false_iff_ne]
            intro e
            subst e
            exact he rfl
          clear he
          go_wp2_with fail
          go_quiet (fail)
          go_wp2_with fail
          go_ret
          exact ⟨by rw [hfin.out]; rfl, ⟨hbw.os, hbw.tape, hbw.output, hbw.size, hbw.block⟩⟩
      · have hfin : Hid ((l == k) = true) := by
          show _ = _
          rw [beq_iff_eq]
          have := htk.out
          rwa [List.take_of_length_le (by omega), List.take_of_length_le (by have := hlen'.out; omega)] at this
        have hlt' : ¬ (j : Int) < (l.length : Int) := by omega
        go_wp2_with fail
        go_ret
        exact ⟨by rw [hfin.out]; rfl, hbw⟩
  · have hne : ((l.length : Int) != (k.length : Int)) = true := by simp; omega
    have hfin : Hid ((l == k) = false) := by
      show _ = _
      rw [beq_eq_false_iff_ne]
      intro e
      exact hlen (by rw [e])
    clear hlen
    go_enter Tryd.func50, Tryd.ntmps50
    go_wp2_with fail
    go_ret
    exact ⟨by rw [hfin.out]; rfl, Below.refl _ _⟩
end Go.Proofs.YtkbmpkdflgimmaaDoor
