/- Contracts of OwnSpans, OwnSounds, AlikeSpans, KeptSounds. -/
import Derived.Test.YtkbmpkdflgimmaaDoorEnds1
import Derived.Test.YtkbmpkdflgimmaaDoorRL
namespace Go.Proofs.YtkbmpkdflgimmaaDoor
open Go.RowKit Go.Shelf

theorem spans_row' {z : Nat} {W : World} {v : Value} {l : List Span} (h : W.ownsRow z 24 2 v l.length (flatT l)) (hl : l.length * 16 ≤ 140737488351232) : ∃ b a c, v = .slice a l.length c ∧ SpansAt W.heap.size W b 0 a l ∧ (l ≠ [] → z ≤ b) := by
  rcases h.2 with ⟨rfl, h0⟩ | ⟨g, cap, cur, rfl, h3, h4, h5, h6, h7, h8⟩
  · have : l = [] := List.length_eq_zero_iff.1 h0
    subst this
    exact ⟨0, none, 0, rfl, ⟨by simp, fun e => absurd rfl e, fun e => absurd rfl e, fun k hk => by simp at hk, fun k hk => by simp at hk⟩, fun e => absurd rfl e⟩
  · have hc : ∀ j u, (flatT l)[j]? = some u → W.cell? ⟨g, 0 + j, none⟩ = some u := fun j u hu => by
      have := h.cells (g := g) rfl j u hu
      rw [addr_add] at this
      rwa [Nat.zero_add]
    refine ⟨g, _, cap, rfl, ⟨hl, fun _ => rfl, fun _ => (h.lt g rfl).2, fun k hk => hc _ _ (flatT_get l k hk).1, fun k hk => ?_⟩, fun _ => (h.lt g rfl).1⟩
    exact hc (k * 2 + 1) _ (flatT_get l k hk).2
theorem sounds_row' {z : Nat} {W : World} {v : Value} {l : List Sound} (h : W.ownsRow z 70 3 v l.length (flatS l)) (hl : l.length * 24 ≤ 140737488351232) : ∃ b a c, v = .slice a l.length c ∧ SoundsAt W.heap.size W b 0 a l ∧ (l ≠ [] → z ≤ b) := by
  rcases h.2 with ⟨rfl, h0⟩ | ⟨g, cap, cur, rfl, h3, h4, h5, h6, h7, h8⟩
  · have : l = [] := List.length_eq_zero_iff.1 h0
    subst this
    exact ⟨0, none, 0, rfl, ⟨by simp, fun e => absurd rfl e, fun e => absurd rfl e, fun k hk => by simp at hk, fun k hk => by simp at hk, fun k hk => by simp at hk⟩, fun e => absurd rfl e⟩
  · have hc : ∀ j u, (flatS l)[j]? = some u → W.cell? ⟨g, 0 + j, none⟩ = some u := fun j u hu => by
      have := h.cells (g := g) rfl j u hu
      rw [addr_add] at this
      rwa [Nat.zero_add]
    refine ⟨g, _, cap, rfl, ⟨hl, fun _ => rfl, fun _ => (h.lt g rfl).2, fun k hk => hc _ _ (flatS_get l k hk).1, fun k hk => ?_, fun k hk => ?_⟩, fun _ => (h.lt g rfl).1⟩
    · exact hc (k * 3 + 1) _ (flatS_get l k hk).2.1
    · exact hc (k * 3 + 2) _ (flatS_get l k hk).2.2
theorem slice_nil22 (a : Option Addr) (n c : Nat) (W : World) : (Instr.slice 22 (.slice a n c) none (some (i64 0)) (some (i64 0))).run Tryd.prog W = .ok (.slice a 0 0) W := by
  have hu : Tryd.prog.underlying 22 = some (.slice (Tryd.prog.elem 22)) := by kernel_rfl
  have hs : (sizeOf (Tryd.prog.elem 22)).run Tryd.prog W = .ok 2 W := by kernel_rfl
  rw [run_slice_hm W 22 a n c hu .i64 .i64 0 0 (by omega) (by omega) (by omega), hs]
  simp only [Result.andThen, sliced]
  simp
theorem slice_nil28 (a : Option Addr) (n c : Nat) (W : World) : (Instr.slice 28 (.slice a n c) none (some (i64 0)) (some (i64 0))).run Tryd.prog W = .ok (.slice a 0 0) W := by
  have hu : Tryd.prog.underlying 28 = some (.slice (Tryd.prog.elem 28)) := by kernel_rfl
  have hs : (sizeOf (Tryd.prog.elem 28)).run Tryd.prog W = .ok 3 W := by kernel_rfl
  rw [run_slice_hm W 28 a n c hu .i64 .i64 0 0 (by omega) (by omega) (by omega), hs]
  simp only [Result.andThen, sliced]
  simp
def OwnSpansPost (l : List Span) (w : World) (e : Ending) (w' : World) : Prop := ∃ b a c, e = .returned (.slice a l.length c) ∧ Below w.heap.size w w' ∧ SpansAt w'.heap.size w' b 0 a l ∧ (l ≠ [] → w.heap.size ≤ b)
def OwnSoundsPost (l : List Sound) (w : World) (e : Ending) (w' : World) : Prop := ∃ b a c, e = .returned (.slice a l.length c) ∧ Below w.heap.size w w' ∧ SoundsAt w'.heap.size w' b 0 a l ∧ (l ≠ [] → w.heap.size ≤ b)
theorem own_nil22 (a : Option Addr) (c : Nat) (W : World) : (Builtin.append_ #[22, 22] 22 #[.slice a 0 0, .slice a 0 c]).run Tryd.prog W = .ok (.slice a 0 0) W := by
  obtain ⟨i0, hi, _⟩ := info_parts info24'
  cases a <;> simp [Builtin.append_, run_underlying Tryd.underlying22, sizeOf, typeInfo, hi, Builtin.lenOf, Builtin.firstCells, loadCells, loadCellsFrom, storeCells]
theorem own_nil28 (a : Option Addr) (c : Nat) (W : World) : (Builtin.append_ #[28, 28] 28 #[.slice a 0 0, .slice a 0 c]).run Tryd.prog W = .ok (.slice a 0 0) W := by
  obtain ⟨i0, hi, _⟩ := info_parts info70
  cases a <;> simp [Builtin.append_, run_underlying Tryd.underlying28, sizeOf, typeInfo, hi, Builtin.lenOf, Builtin.firstCells, loadCells, loadCellsFrom, storeCells]
set_option maxRecDepth 100000 in
theorem ownSpans_any (n b o : Nat) (a : Option Addr) (c : Nat) (l : List Span) (w : World) (hT : SpansAt n w b o a l) : Calls Tryd.prog 55 #[.slice a l.length c] w (OwnSpansPost l w) := by
  have hs := slice_nil22 a l.length c
  have hl := hT.len
  obtain ⟨i0, hi, hi1, hi2, hi3⟩ := info_parts info24'
  by_cases hne : l = []
  · subst hne
    have hap := own_nil22 a c
    have hs' : ∀ W, (Instr.slice 22 (.slice a 0 c) none (some (i64 0)) (some (i64 0))).run Tryd.prog W = .ok (.slice a 0 0) W := hs
    go_enter Tryd.func55, Tryd.ntmps55
    go_wp2_with (at_builtin; refine wpList_plain rfl fun K hK => wp_of_run (ex_append (.tmp 4) (.tmp 5) 22 rfl (hap _)) (hK _ _ ?_))
    go_ret
    exact ⟨0, _, 0, rfl, Below.refl _ _, ⟨by simp, fun e => absurd rfl e, fun e => absurd rfl e, fun k hk => by simp at hk, fun k hk => by simp at hk⟩, fun e => absurd rfl e⟩
  · obtain rfl := hT.at_ hne
    have hpos : 0 < l.length := List.length_pos_iff.2 hne
    have hcs := flatT_cells hT
    go_enter Tryd.func55, Tryd.ntmps55
    go_wp2_with (at_builtin; refine wpList_append_grows _ rfl _ _ 22 rfl 24 i0 (.agg #[i64 0, i64 0]) 2 16 Tryd.underlying22 hi hi1 hi2 hi3 rfl (by decide) (some ⟨b, o, none⟩) 0 0 [] rfl (fun e => by cases e) rfl (fun _ _ j u hu => by simp at hu) ⟨b, o, none⟩ l.length c (flatT l) rfl (flatT_len l) hcs (flatT_one l) (by omega) (by unfold maxLen; omega) (by omega) ?_; intro v' w' hown hgrow)
    have hown' : w'.ownsRow w.heap.size 24 2 v' l.length (flatT l) := by simpa using hown
    obtain ⟨b', a', c', rfl, hT', hb'⟩ := spans_row' hown' hl
    go_ret
    exact ⟨b', a', c', rfl, (Below.refl _ w).grown hgrow (Nat.le_refl _) (fun j e => by cases e), hT', hb'⟩
set_option maxRecDepth 100000 in
theorem ownSounds_any (n b o : Nat) (a : Option Addr) (c : Nat) (l : List Sound) (w : World) (hT : SoundsAt n w b o a l) : Calls Tryd.prog 56 #[.slice a l.length c] w (OwnSoundsPost l w) := by
  have hs := slice_nil28 a l.length c
  have hl := hT.len
  obtain ⟨i0, hi, hi1, hi2, hi3⟩ := info_parts info70
  by_cases hne : l = []
  · subst hne
    have hap := own_nil28 a c
    have hs' : ∀ W, (Instr.slice 28 (.slice a 0 c) none (some (i64 0)) (some (i64 0))).run Tryd.prog W = .ok (.slice a 0 0) W := hs
    go_enter Tryd.func56, Tryd.ntmps56
    go_wp2_with (at_builtin; refine wpList_plain rfl fun K hK => wp_of_run (ex_append (.tmp 4) (.tmp 5) 28 rfl (hap _)) (hK _ _ ?_))
    go_ret
    exact ⟨0, _, 0, rfl, Below.refl _ _, ⟨by simp, fun e => absurd rfl e, fun e => absurd rfl e, fun k hk => by simp at hk, fun k hk => by simp at hk, fun k hk => by simp at hk⟩, fun e => absurd rfl e⟩
  · obtain rfl := hT.at_ hne
    have hpos : 0 < l.length := List.length_pos_iff.2 hne
    have hcs := flatS_cells hT
    go_enter Tryd.func56, Tryd.ntmps56
    go_wp2_with (at_builtin; refine wpList_append_grows _ rfl _ _ 28 rfl 70 i0 (.agg #[i64 0, i64 0, i64 0]) 3 24 Tryd.underlying28 hi hi1 hi2 hi3 rfl (by decide) (some ⟨b, o, none⟩) 0 0 [] rfl (fun e => by cases e) rfl (fun _ _ j u hu => by simp at hu) ⟨b, o, none⟩ l.length c (flatS l) rfl (flatS_len l) hcs (flatS_one l) (by omega) (by unfold maxLen; omega) (by omega) ?_; intro v' w' hown hgrow)
    have hown' : w'.ownsRow w.heap.size 70 3 v' l.length (flatS l) := by simpa using hown
    obtain ⟨b', a', c', rfl, hT', hb'⟩ := sounds_row' hown' hl
    go_ret
    exact ⟨b', a', c', rfl, (Below.refl _ w).grown hgrow (Nat.le_refl _) (fun j e => by cases e), hT', hb'⟩
set_option maxRecDepth 100000 in
set_option maxHeartbeats 1000000 in
theorem alikeSpans_any (b o b' o' : Nat) (a a' : Option Addr) (c c' : Nat) (l : List Span) (w : World) (hl : SpansAt w.heap.size w b o a l) (hk : SpansAt w.heap.size w b' o' a' l) :
    Calls Tryd.prog 61 #[.slice a l.length c, .slice a' l.length c'] w fun e w' => e = .returned (.bool true) ∧ Below w.heap.size w w' := by
  have h1 := hl.len
  go_enter Tryd.func61, Tryd.ntmps61
  go_wp2_with fail
  go_loopw [5] (fun i wr => ∃ j : Nat, j ≤ l.length ∧ i = .int .i64 j ∧ Below w.heap.size w wr) (fun i _ => l.length - (intOf i).toNat)
  case atStart => exact ⟨0, Nat.zero_le _, rfl, Below.refl _ _⟩
  case round =>
    obtain ⟨j, hj, rfl, hbw⟩ := hrel
    by_cases hlt : j < l.length
    · have hl1 := hl.same (Same.of_below hbw)
      have hk1 := hk.same (Same.of_below hbw)
      have hi1 : ∀ W, (Instr.indexAt 22 (.slice a l.length c) (.int .i64 (j : Int))).run Tryd.prog W = .ok (.pointer (some ⟨b, o + j * 2, none⟩)) W := fun W => idx22 W (hl1.at_ (ne_nil_of_lt hlt)) hlt
      have hi2 : ∀ W, (Instr.indexAt 22 (.slice a' l.length c') (.int .i64 (j : Int))).run Tryd.prog W = .ok (.pointer (some ⟨b', o' + j * 2, none⟩)) W := fun W => idx22 W (hk1.at_ (ne_nil_of_lt hlt)) hlt
      have c1 := hl1.lo j hlt
      have c2 := hl1.hi j hlt
      have c3 := hk1.lo j hlt
      have c4 := hk1.hi j hlt
      have hlt' : (j : Int) < (l.length : Int) := by omega
      go_wp2_with fail
      go_quiet (fail)
      go_wp2_with fail
      go_roundw
      case rel => exact ⟨j + 1, by omega, by go_num, ⟨hbw.os, hbw.tape, hbw.output, hbw.size, hbw.block⟩⟩
      case measure => simp [intOf]; omega
    · have hlt' : ¬ (j : Int) < (l.length : Int) := by omega
      go_wp2_with fail
      go_ret
      exact ⟨rfl, hbw⟩
set_option maxRecDepth 100000 in
set_option maxHeartbeats 1000000 in
theorem keptSounds_any (b o b' o' : Nat) (a a' : Option Addr) (c c' : Nat) (l : List Sound) (w : World) (hl : SoundsAt w.heap.size w b o a l) (hk : SoundsAt w.heap.size w b' o' a' l) :
    Calls Tryd.prog 62 #[.slice a l.length c, .slice a' l.length c'] w fun e w' => e = .returned (.bool true) ∧ Below w.heap.size w w' := by
  have h1 := hl.len
  go_enter Tryd.func62, Tryd.ntmps62
  go_wp2_with fail
  go_loopw [6, 5] (fun i ok wr => ∃ j : Nat, j ≤ l.length ∧ i = .int .i64 j ∧ ok = .bool true ∧ Below w.heap.size w wr) (fun i _ _ => l.length - (intOf i).toNat)
  case atStart => exact ⟨0, Nat.zero_le _, rfl, rfl, Below.refl _ _⟩
  case round =>
    obtain ⟨j, hj, rfl, rfl, hbw⟩ := hrel
    by_cases hlt : j < l.length
    · have hl1 := hl.same (Same.of_below hbw)
      have hk1 := hk.same (Same.of_below hbw)
      have hi1 : ∀ W, (Instr.indexAt 28 (.slice a l.length c) (.int .i64 (j : Int))).run Tryd.prog W = .ok (.pointer (some ⟨b, o + j * 3, none⟩)) W := fun W => idx28 W (hl1.at_ (ne_nil_of_lt hlt)) hlt
      have hi2 : ∀ W, (Instr.indexAt 28 (.slice a' l.length c') (.int .i64 (j : Int))).run Tryd.prog W = .ok (.pointer (some ⟨b', o' + j * 3, none⟩)) W := fun W => idx28 W (hk1.at_ (ne_nil_of_lt hlt)) hlt
      have c1 := hl1.hour j hlt
      have c2 := hl1.shore j hlt
      have c3 := hl1.deep j hlt
      have c4 := hk1.hour j hlt
      have c5 := hk1.shore j hlt
      have c6 := hk1.deep j hlt
      have hlt' : (j : Int) < (l.length : Int) := by omega
      go_wp2_with fail
      go_quiet (fail)
      go_wp2_with fail
      go_roundw
      case rel => exact ⟨j + 1, by omega, by go_num, rfl, ⟨hbw.os, hbw.tape, hbw.output, hbw.size, hbw.block⟩⟩
      case measure => simp [intOf]; omega
    · have hlt' : ¬ (j : Int) < (l.length : Int) := by omega
      go_wp2_with fail
      go_ret
      exact ⟨rfl, hbw⟩
end Go.Proofs.YtkbmpkdflgimmaaDoor
