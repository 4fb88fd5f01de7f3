/- Contracts of the list functions: slices.Index, slices.Contains, slices.Min, greatest. -/
import Derived.Test.YtkbmpkdflgimmaaDoorPMap2
import Derived.Deep.RegionHeld3
namespace Go.Proofs.YtkbmpkdflgimmaaDoor
open Go.RowKit Go.Shelf

def idxI (l : List Int) (x : Int) : Int := match l.findIdx? (· == x) with
  | some i => i
  | none => -1
theorem idxI_nonneg (l : List Int) (x : Int) : decide (0 ≤ idxI l x) = l.contains x := by
  unfold idxI
  cases h : l.findIdx? (· == x) with
  | none =>
    rw [List.findIdx?_eq_none_iff] at h
    have : l.contains x = false := by
      rw [List.contains_eq_any_beq, List.any_eq_false]
      intro y hy
      have := h y hy
      simp at this ⊢
      exact fun e => this e.symm
    rw [this]; rfl
  | some i =>
    obtain ⟨hlt, hx, _⟩ := List.findIdx?_eq_some_iff_getElem.1 h
    have : l.contains x = true := by
      rw [List.contains_eq_any_beq, List.any_eq_true]
      exact ⟨l[i], List.getElem_mem hlt, by simp at hx ⊢; exact hx.symm⟩
    rw [this]; simp
set_option maxRecDepth 100000 in
set_option maxHeartbeats 1000000 in
theorem index_any (n b o : Nat) (a : Option Addr) (c : Nat) (l : List Int) (x : Int) (w : World) (hl : IntsAt n w b o a l) :
    Calls Tryd.prog 105 #[.slice a l.length c, i64 x] w fun e w' => e = .returned (i64 (idxI l x)) ∧ w = w' := by
  have hlen := hl.len
  go_enter Tryd.func105, Tryd.ntmps105
  go_wp2_with fail
  go_loop [8] (fun i => ∃ k : Nat, k ≤ l.length ∧ i = .int .i64 k ∧ Hid (∀ j (h : j < l.length), j < k → l[j] ≠ x)) (fun i => l.length - (intOf i).toNat)
  case atStart => exact ⟨0, Nat.zero_le _, rfl, fun j _ h => by omega⟩
  case round =>
    obtain ⟨k, hk, rfl, hall⟩ := hrel
    by_cases hlt : k < l.length
    · have hidx := idx40 (n := l.length) (c := c) (k := k) w (hl.at_ (ne_nil_of_lt hlt)) hlt
      have hc := hl.cell k hlt
      by_cases he : x = l[k]
      · have fin : Hid (idxI l x = k) := by
          show _ = _
          have : l.findIdx? (· == x) = some k := by
            rw [List.findIdx?_eq_some_iff_getElem]
            exact ⟨hlt, by simp [he], fun j hj => by simpa using hall.out j (by omega) hj⟩
          simp [idxI, this]
        have he' : ((x == l[k]) = true) := by simp [he]
        have he := Lib.hid he
        go_wp2_with fail
        go_ret
        exact ⟨by have h := fin.out; rw [he.out] at h; rw [h]; rfl, rfl⟩
      · have he' : ((x == l[k]) = false) := by simp [he]
        have he := Lib.hid he
        go_wp2_with fail
        go_round
        case rel => exact ⟨k + 1, by omega, by go_num, fun j h hj => by
          rcases Nat.lt_or_ge j k with h' | h'
          · exact hall.out j h h'
          · obtain rfl : j = k := by omega
            exact fun e => he.out e.symm⟩
        case measure => simp [intOf]; omega
    · have fin : Hid (idxI l x = -1) := by
        show _ = _
        have : l.findIdx? (· == x) = none := by
          rw [List.findIdx?_eq_none_iff]
          intro y hy
          obtain ⟨j, h, rfl⟩ := List.getElem_of_mem hy
          simpa using hall.out j h (by omega)
        simp [idxI, this]
      go_wp2_with fail
      go_ret
      exact ⟨by rw [fin.out]; rfl, rfl⟩
theorem contains_any (n b o : Nat) (a : Option Addr) (c : Nat) (l : List Int) (x : Int) (w : World) (hl : IntsAt n w b o a l) :
    Calls Tryd.prog 94 #[.slice a l.length c, i64 x] w fun e w' => e = .returned (.bool (l.contains x)) ∧ w = w' := by
  go_enter Tryd.func94, Tryd.ntmps94
  go_wp2_with (go_at_call 105; refine (index_any n b o a c l x _ hl).mono ?_; rintro e w' ⟨rfl, rfl⟩)
  all_goals
    go_ret
    refine ⟨?_, rfl⟩
    rw [← idxI_nonneg]
    simp
    try omega
def minL (l : List Int) : Int := l.tail.foldl min (l.headD 0)
def maxL (x : Int) (l : List Int) : Int := l.foldl max x
theorem foldl_take_succ (f : Int → Int → Int) (x : Int) (l : List Int) (k : Nat) (h : k < l.length) : (l.take (k + 1)).foldl f x = f ((l.take k).foldl f x) l[k] := by
  rw [List.take_succ_eq_append_getElem h, List.foldl_append]; rfl
set_option maxRecDepth 100000 in
set_option maxHeartbeats 1000000 in
theorem greatest_any (n b o : Nat) (a : Option Addr) (c : Nat) (l : List Int) (x : Int) (w : World) (hl : IntsAt n w b o a l) :
    Calls Tryd.prog 100 #[i64 x, .slice a l.length c] w fun e w' => e = .returned (i64 (maxL x l)) ∧ w = w' := by
  have hlen := hl.len
  go_enter Tryd.func100, Tryd.ntmps100
  go_wp2_with fail
  go_loop [9, 0] (fun i v => ∃ k : Nat, k ≤ l.length ∧ i = .int .i64 k ∧ ∃ y : Int, v = i64 y ∧ Hid (y = maxL x (l.take k))) (fun i _ => l.length - (intOf i).toNat)
  case atStart => exact ⟨0, Nat.zero_le _, rfl, x, rfl, by simp [Hid, maxL]⟩
  case round =>
    obtain ⟨k, hk, rfl, y, rfl, hy⟩ := hrel
    by_cases hlt : k < l.length
    · have hidx := idx40 (n := l.length) (c := c) (k := k) w (hl.at_ (ne_nil_of_lt hlt)) hlt
      have hc := hl.cell k hlt
      have hs := Lib.hid (foldl_take_succ max x l k hlt)
      rcases Int.le_total y l[k] with hle | hle
      · go_wp2_with fail
        go_round
        case rel =>
          refine ⟨k + 1, by omega, by go_num, _, rfl, ?_⟩
          show _ = _
          have h1 := hs.out
          have h2 := hy.out
          unfold maxL at h2 ⊢
          rw [h1, ← h2]
          simp [Int.max_def]
          try omega
        case measure => simp [intOf]; omega
      · go_wp2_with fail
        go_round
        case rel =>
          refine ⟨k + 1, by omega, by go_num, _, rfl, ?_⟩
          show _ = _
          have h1 := hs.out
          have h2 := hy.out
          unfold maxL at h2 ⊢
          rw [h1, ← h2]
          simp [Int.max_def]
          try omega
        case measure => simp [intOf]; omega
    · have hke : k = l.length := by omega
      have hy' : Hid (y = maxL x l) := by
        have := hy.out
        rw [hke, List.take_length] at this
        exact this
      have hk' : ¬ (k : Int) < (l.length : Int) := by omega
      clear hke
      go_wp2_with fail
      go_ret
      exact ⟨by rw [← hy'.out]; rfl, rfl⟩
theorem minL_take (l : List Int) (k : Nat) (hk : 1 ≤ k) (h : k < l.length) : minL (l.take (k + 1)) = min (minL (l.take k)) l[k] := by
  cases l with
  | nil => simp at h
  | cons x l =>
    obtain ⟨j, rfl⟩ : ∃ j, k = j + 1 := ⟨k - 1, by omega⟩
    simp only [minL, List.take_succ_cons, List.tail_cons, List.headD_cons, List.getElem_cons_succ]
    exact foldl_take_succ min x l j (by simpa using h)
set_option maxRecDepth 100000 in
set_option maxHeartbeats 1000000 in
theorem min_any (n b o : Nat) (a : Option Addr) (c : Nat) (l : List Int) (w : World) (hl : IntsAt n w b o a l) (h0 : 0 < l.length) :
    Calls Tryd.prog 99 #[.slice a l.length c] w fun e w' => e = .returned (i64 (minL l)) ∧ w = w' := by
  have hlen := hl.len
  have hidx0 := idx40 (n := l.length) (c := c) (k := 0) w (hl.at_ (ne_nil_of_lt h0)) h0
  have hc0 := hl.cell 0 h0
  simp only [Nat.add_zero, Int.natCast_zero] at hidx0 hc0
  have h1 : ¬ (l.length : Int) < 1 := by omega
  have hm0 : Hid (l[0] = minL (l.take 1)) := by
    show _ = _
    cases l with
    | nil => simp at h0
    | cons x l => simp [minL]
  go_enter Tryd.func99, Tryd.ntmps99
  go_wp2_with fail
  go_loop [4, 3] (fun i v => ∃ k : Nat, 1 ≤ k ∧ k ≤ l.length ∧ i = .int .i64 k ∧ ∃ y : Int, v = i64 y ∧ Hid (y = minL (l.take k))) (fun i _ => l.length - (intOf i).toNat)
  case atStart => exact ⟨1, Nat.le_refl _, by omega, rfl, _, rfl, hm0⟩
  case round =>
    clear hidx0 hc0
    obtain ⟨k, hk1, hk, rfl, y, rfl, hy⟩ := hrel
    by_cases hlt : k < l.length
    · have hidx := idx40 (n := l.length) (c := c) (k := k) w (hl.at_ (ne_nil_of_lt hlt)) hlt
      have hc := hl.cell k hlt
      have hs := Lib.hid (minL_take l k hk1 hlt)
      rcases Int.le_total y l[k] with hle | hle
      · go_wp2_with fail
        go_round
        case rel =>
          refine ⟨k + 1, by omega, by omega, by go_num, _, rfl, ?_⟩
          show _ = _
          rw [hs.out, ← hy.out]
          simp [Int.min_def]
          try omega
        case measure => simp [intOf]; omega
      · go_wp2_with fail
        go_round
        case rel =>
          refine ⟨k + 1, by omega, by omega, by go_num, _, rfl, ?_⟩
          show _ = _
          rw [hs.out, ← hy.out]
          simp [Int.min_def]
          try omega
        case measure => simp [intOf]; omega
    · have hke : k = l.length := by omega
      have hy' : Hid (y = minL l) := by
        have := hy.out
        rw [hke, List.take_length] at this
        exact this
      have hk' : ¬ (k : Int) < (l.length : Int) := by omega
      clear hke
      go_wp2_with fail
      go_ret
      exact ⟨by rw [← hy'.out]; rfl, rfl⟩
def EndsPost (l : List Int) (w : World) (e : Ending) (w' : World) : Prop := e = .returned (.agg #[i64 (minL l), i64 (maxL (l.head?.getD 0) l)]) ∧ Below w.heap.size w w'
set_option maxRecDepth 100000 in
set_option maxHeartbeats 2000000 in
theorem ends_any (n b o : Nat) (a : Option Addr) (c : Nat) (l : List Int) (w : World) (hl : IntsAt n w b o a l) (h0 : 0 < l.length) (hn : n ≤ w.heap.size) :
    Calls Tryd.prog 75 #[.slice a l.length c] w (EndsPost l w) := by
  have hlen := hl.len
  have hidx0 : ∀ W, (Instr.indexAt 40 (.slice a l.length c) (.int .i64 0)).run Tryd.prog W = .ok (.pointer (some ⟨b, o, none⟩)) W := fun W => by
    have := idx40 (n := l.length) (c := c) (k := 0) W (hl.at_ (ne_nil_of_lt h0)) h0
    simpa using this
  go_enter Tryd.func75, Tryd.ntmps75
  go_wp2_with fail
  have hb1 : Below w.heap.size w (w.alloc (.cells #[i64 0, i64 0] 24)) := (Below.refl _ w).alloc (Nat.le_refl _) _
  have hI : IntsAt n (w.alloc (.cells #[i64 0, i64 0] 24)) b o a l := hl.same ((Same.of_below hb1).mono hn)
  have hId : IntsAt n (w.alloc (.cells #[i64 0, i64 0] 24)).drew b o a l := ⟨hI.len, hI.at_, hI.lt, hI.cell⟩
  have hcg : ∀ c : Array Value, (w.alloc (.cells c 24)).cell? ⟨b, o, none⟩ = some (i64 (l.headD 0)) := fun c => by
    have hI : IntsAt n (w.alloc (.cells c 24)) b o a l := hl.same ((Same.of_below ((Below.refl _ w).alloc (Nat.le_refl _) _)).mono hn)
    have := hI.cell 0 h0
    rw [Nat.add_zero] at this
    rw [this]
    cases l with
    | nil => simp at h0
    | cons x l => rfl
  go_region_held3 (fun W => W.cell? ⟨b, o, none⟩ = some (i64 (l.headD 0))) (exact hcg _) (first | (go_at_call 99; refine (min_any n b o a c l _ hId h0).mono ?_; rintro e w' ⟨rfl, rfl⟩) | (go_at_call 100; refine (greatest_any n b o a c l _ _ hId).mono ?_; rintro e w' ⟨rfl, rfl⟩))
  go_wp2_with fail
  refine bodyPost_ret (v := .agg #[i64 (minL l), i64 (maxL (l.head?.getD 0) l)]) (by simp [results, Tryd.f75, go_sem]) rfl ⟨rfl, ?_⟩
  exact ((Below.refl _ w).alloc (Nat.le_refl _) _).drew
end Go.Proofs.YtkbmpkdflgimmaaDoor
