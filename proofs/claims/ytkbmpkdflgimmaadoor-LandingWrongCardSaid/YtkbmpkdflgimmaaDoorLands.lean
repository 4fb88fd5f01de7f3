/- The contract of (book).lands. -/
import Derived.Test.YtkbmpkdflgimmaaDoorSome
import Derived.Test.YtkbmpkdflgimmaaDoorSmall
import Derived.Test.YtkbmpkdflgimmaaDoorQReg
import Derived.Laws.EntriesVeiled
namespace Go.Proofs.YtkbmpkdflgimmaaDoor
open Go.RowKit

theorem high1_any (a b : Int) (w : World) : Calls Tryd.prog 106 #[.agg #[i64 a, i64 b]] w fun e w' => e = .returned (i64 b) ∧ Below w.heap.size w w' := by
  go_enter Tryd.func106, Tryd.ntmps106
  go_wp2
  go_ret
  exact ⟨rfl, (Below.refl _ _).alloc (Nat.le_refl _) _⟩
theorem low1_any (a b : Int) (w : World) : Calls Tryd.prog 125 #[.agg #[i64 a, i64 b]] w fun e w' => e = .returned (i64 a) ∧ Below w.heap.size w w' := by
  go_enter Tryd.func125, Tryd.ntmps125
  go_wp2
  go_ret
  exact ⟨rfl, (Below.refl _ _).alloc (Nat.le_refl _) _⟩
theorem high_any (w : World) : Calls Tryd.prog 102 #[] w fun e w' => e = .returned (.agg #[.func (.func 106) #[] #[]]) ∧ Below w.heap.size w w' := by
  go_enter Tryd.func102, Tryd.ntmps102
  go_wp2
  refine bodyPost_ret (v := .agg #[.func (.func 106) #[] #[]]) (by simp [results, Tryd.f102, go_sem]) rfl ⟨rfl, ?_⟩
  exact (Below.refl _ _).alloc (Nat.le_refl _) _
theorem low_any (w : World) : Calls Tryd.prog 124 #[] w fun e w' => e = .returned (.agg #[.func (.func 125) #[] #[]]) ∧ Below w.heap.size w w' := by
  go_enter Tryd.func124, Tryd.ntmps124
  go_wp2
  refine bodyPost_ret (v := .agg #[.func (.func 125) #[] #[]]) (by simp [results, Tryd.f124, go_sem]) rfl ⟨rfl, ?_⟩
  exact (Below.refl _ _).alloc (Nat.le_refl _) _

def landsB (B : Book) (s load h f e : Int) : Bool := decide (h - f ≥ e + (load + B.sink - 1) / B.sink + B.under) && inB h (if s = 0 then B.s0.lo else B.s1.lo) (if s = 0 then B.s0.hi else B.s1.hi)
structure Sane (B : Book) : Prop where
  el : 0 ≤ B.el
  ee : B.el ≤ B.eh
  eh : B.eh ≤ 100
  s1 : 1 ≤ B.sink
  s2 : B.sink ≤ 100
  u1 : 0 ≤ B.under
  u2 : B.under ≤ 100

def LandsPost (B : Book) (s load h f e : Int) (w : World) (en : Ending) (w' : World) : Prop := en = .returned (.bool (landsB B s load h f e)) ∧ Below w.heap.size w w'
/-- The boxes of lands' parameters. -/
structure LC (B : Book) (ta : Option Addr) (tc : Nat) (sa : Option Addr) (sc m : Nat) (cv : Value) (hour s f0 f1 : Int) (fid z : Nat) (W0 w : World) : Prop where
  below : Below z W0 w
  size : z + 5 ≤ w.heap.size
  c0 : w.heap[z]? = some (.cells (calcCells B ta tc sa sc m cv) 93 (0, 0))
  c1 : w.heap[z + 1]? = some (.cells #[i64 hour, i64 s] 107 (0, 0))
  c2 : w.heap[z + 1 + 1]? = some (.cells #[i64 f0, i64 f1] 99 (0, 0))
  c3 : w.heap[z + 1 + 1 + 1]? = some (.cells #[.func (.func fid) #[] #[]] 128 (0, 0))
  c4 : w.heap[z + 1 + 1 + 1 + 1]? = some (.cells #[i64 (if s = 0 then B.s0.fl else B.s1.fl), i64 (if s = 0 then B.s0.fh else B.s1.fh), i64 (if s = 0 then B.s0.lo else B.s1.lo), i64 (if s = 0 then B.s0.hi else B.s1.hi)] 26 (0, 0))
theorem LC.more {B ta tc sa sc m cv hour s f0 f1 fid z W0 w w'} (h : LC B ta tc sa sc m cv hour s f0 f1 fid z W0 w) (hb : Below w.heap.size w w') : LC B ta tc sa sc m cv hour s f0 f1 fid z W0 w' :=
  ⟨h.below.trans (hb.mono (by have := h.size; omega)), Nat.le_trans h.size hb.size, (hb.block _ (by have := h.size; omega)).trans h.c0, (hb.block _ (by have := h.size; omega)).trans h.c1, (hb.block _ (by have := h.size; omega)).trans h.c2, (hb.block _ (by have := h.size; omega)).trans h.c3, (hb.block _ (by have := h.size; omega)).trans h.c4⟩
theorem LC.drawn {B ta tc sa sc m cv hour s f0 f1 fid z W0 w} (h : LC B ta tc sa sc m cv hour s f0 f1 fid z W0 w) (n) : LC B ta tc sa sc m cv hour s f0 f1 fid z W0 { w with drawn := n } :=
  ⟨⟨h.below.os, h.below.tape, h.below.output, h.below.size, h.below.block⟩, h.size, h.c0, h.c1, h.c2, h.c3, h.c4⟩
theorem wrap_fit {x : Int} (h1 : -9223372036854775808 ≤ x) (h2 : x ≤ 9223372036854775807) : IntKind.i64.wrap x = x := by rw [IntKind.wrap_i64]; omega
theorem alloc_heap (w : World) (o : Obj) : (w.alloc o).heap = w.heap.push o := rfl
theorem alloc5 (w : World) (o0 o1 o2 o3 o4 : Obj) : Below w.heap.size w (((((w.alloc o0).alloc o1).alloc o2).alloc o3).alloc o4) ∧ (((((w.alloc o0).alloc o1).alloc o2).alloc o3).alloc o4).heap.size = w.heap.size + 5 ∧
    (((((w.alloc o0).alloc o1).alloc o2).alloc o3).alloc o4).heap[w.heap.size]? = some o0 ∧ (((((w.alloc o0).alloc o1).alloc o2).alloc o3).alloc o4).heap[w.heap.size + 1]? = some o1 ∧ (((((w.alloc o0).alloc o1).alloc o2).alloc o3).alloc o4).heap[w.heap.size + 2]? = some o2 ∧
    (((((w.alloc o0).alloc o1).alloc o2).alloc o3).alloc o4).heap[w.heap.size + 3]? = some o3 ∧ (((((w.alloc o0).alloc o1).alloc o2).alloc o3).alloc o4).heap[w.heap.size + 4]? = some o4 := by
  have e : (((((w.alloc o0).alloc o1).alloc o2).alloc o3).alloc o4).heap = w.heap ++ #[o0, o1, o2, o3, o4] := by apply Array.ext'; simp [alloc_heap]
  refine ⟨(((((Below.refl _ w).alloc (Nat.le_refl _) _).alloc (by simp) _).alloc (by simp; omega) _).alloc (by simp; omega) _).alloc (by simp; omega) _, by simp, ?_, ?_, ?_, ?_, ?_⟩ <;> rw [e, Array.getElem?_append_right (by omega)] <;> simp
set_option maxRecDepth 100000 in
set_option maxHeartbeats 1000000 in
theorem lands_at0 (B : Book) (ta : Option Addr) (tc : Nat) (sa : Option Addr) (sc m : Nat) (can : Option Addr) (cn cc : Nat) (hour load h f0 f1 : Int) (fid : Nat) (ev : Int) (w : World) (hB : Sane B)
    (hcf : ∀ w, (callFunc fid #[.agg #[i64 B.el, i64 B.eh]]).run Tryd.prog w = .ok (.enter fid #[.agg #[i64 B.el, i64 B.eh]]) w)
    (hev : ∀ w, Calls Tryd.prog fid #[.agg #[i64 B.el, i64 B.eh]] w fun e w' => e = .returned (i64 ev) ∧ Below w.heap.size w w') (e0 : 0 ≤ ev) (e1 : ev ≤ 100)
    (l0 : 0 ≤ load) (l1 : load ≤ 1000) (h1 : -1000 ≤ h) (h2 : h ≤ 1000) (h3 : -1000 ≤ f0) (h4 : f0 ≤ 1000) :
    Calls Tryd.prog 101 #[calcVal B ta tc sa sc m (.slice can cn cc), .agg #[i64 hour, i64 0], i64 load, i64 h, .agg #[i64 f0, i64 f1], .agg #[.func (.func fid) #[] #[]]] w (LandsPost B 0 load h f0 ev w) := by
  obtain ⟨b1, b2, b3, b4, b5, b6, b7⟩ := hB
  have hk : ¬ B.sink = 0 := by omega
  obtain ⟨Q, hQ, hQ0, hQ1, hQ2⟩ : ∃ Q, Hid (Q = (load + B.sink - 1) / B.sink) ∧ (load + B.sink - 1).tdiv B.sink = Q ∧ 0 ≤ Q ∧ Q ≤ 2000 :=
    ⟨_, Lib.hid rfl, Int.tdiv_eq_ediv_of_nonneg (by omega), Int.ediv_nonneg (by omega) (by omega), Int.le_trans (Int.ediv_le_self _ (by omega)) (by omega)⟩
  go_enter Tryd.func101, Tryd.ntmps101
  go_wp2_with fail
  have hL0 : LC B ta tc sa sc m (.slice can cn cc) hour 0 f0 f1 fid w.heap.size w (((((w.alloc (.cells (calcCells B ta tc sa sc m (.slice can cn cc)) 93)).alloc (.cells #[i64 hour, i64 0] 107)).alloc (.cells #[i64 f0, i64 f1] 99)).alloc (.cells #[.func (.func fid) #[] #[]] 128)).alloc (.cells #[i64 B.s0.fl, i64 B.s0.fh, i64 B.s0.lo, i64 B.s0.hi] 26)) :=
    by
      obtain ⟨p1, p2, p3, p4, p5, p6, p7⟩ := alloc5 w (.cells (calcCells B ta tc sa sc m (.slice can cn cc)) 93) (.cells #[i64 hour, i64 0] 107) (.cells #[i64 f0, i64 f1] 99) (.cells #[.func (.func fid) #[] #[]] 128) (.cells #[i64 B.s0.fl, i64 B.s0.fh, i64 B.s0.lo, i64 B.s0.hi] 26)
      exact ⟨p1, by omega, p3, p4, p5, p6, p7⟩
  refine q_region (LC B ta tc sa sc m (.slice can cn cc) hour 0 f0 f1 fid w.heap.size w) (by kernel_rfl) (by kernel_rfl) (fun n => hL0.drawn n) ?_
  refine q_val (by rfl) ?_
  apply Exists.intro
  refine ⟨fun wq hq => ?_, ?_⟩
  · have hx0 := cells_of hq.c0
    have hx1 := cells_of hq.c1
    have hx2 := cells_of hq.c2
    have hx3 := cells_of hq.c3
    have hx4 := cells_of hq.c4
    go_simp
    rfl
  simp only [Act.put, List.setIfInBounds_toArray, List.set_cons_zero, List.set_cons_succ]
  refine q_val (by rfl) ?_
  apply Exists.intro
  refine ⟨fun wq hq => ?_, ?_⟩
  · have hx0 := cells_of hq.c0
    have hx1 := cells_of hq.c1
    have hx2 := cells_of hq.c2
    have hx3 := cells_of hq.c3
    have hx4 := cells_of hq.c4
    go_simp
    rfl
  simp only [Act.put, List.setIfInBounds_toArray, List.set_cons_zero, List.set_cons_succ]
  refine q_val (by rfl) ?_
  apply Exists.intro
  refine ⟨fun wq hq => ?_, ?_⟩
  · have hx0 := cells_of hq.c0
    have hx1 := cells_of hq.c1
    have hx2 := cells_of hq.c2
    have hx3 := cells_of hq.c3
    have hx4 := cells_of hq.c4
    go_simp
    rfl
  simp only [Act.put, List.setIfInBounds_toArray, List.set_cons_zero, List.set_cons_succ]
  refine q_val (by rfl) ?_
  apply Exists.intro
  refine ⟨fun wq hq => ?_, ?_⟩
  · have hx0 := cells_of hq.c0
    have hx1 := cells_of hq.c1
    have hx2 := cells_of hq.c2
    have hx3 := cells_of hq.c3
    have hx4 := cells_of hq.c4
    go_simp
    rfl
  simp only [Act.put, List.setIfInBounds_toArray, List.set_cons_zero, List.set_cons_succ]
  refine q_val (by rfl) ?_
  apply Exists.intro
  refine ⟨fun wq hq => ?_, ?_⟩
  · have hx0 := cells_of hq.c0
    have hx1 := cells_of hq.c1
    have hx2 := cells_of hq.c2
    have hx3 := cells_of hq.c3
    have hx4 := cells_of hq.c4
    go_simp
    rfl
  simp only [Act.put, List.setIfInBounds_toArray, List.set_cons_zero, List.set_cons_succ]
  refine q_call (by rfl) (i64 ev) fid #[.agg #[i64 B.el, i64 B.eh]] ?_ ?_ ?_
  · intro wq hq
    go_simp
  · intro wq hq
    refine (hev wq).mono ?_
    rintro e w' ⟨rfl, hb⟩
    exact ⟨rfl, hq.more hb⟩
  simp only [Act.put, List.setIfInBounds_toArray, List.set_cons_zero, List.set_cons_succ]
  refine q_val (by rfl) ?_
  apply Exists.intro
  refine ⟨fun wq hq => ?_, ?_⟩
  · have hx0 := cells_of hq.c0
    have hx1 := cells_of hq.c1
    have hx2 := cells_of hq.c2
    have hx3 := cells_of hq.c3
    have hx4 := cells_of hq.c4
    go_simp
    rfl
  simp only [Act.put, List.setIfInBounds_toArray, List.set_cons_zero, List.set_cons_succ]
  refine q_val (by rfl) ?_
  apply Exists.intro
  refine ⟨fun wq hq => ?_, ?_⟩
  · have hx0 := cells_of hq.c0
    have hx1 := cells_of hq.c1
    have hx2 := cells_of hq.c2
    have hx3 := cells_of hq.c3
    have hx4 := cells_of hq.c4
    go_simp
    rfl
  simp only [Act.put, List.setIfInBounds_toArray, List.set_cons_zero, List.set_cons_succ]
  refine q_val (by rfl) ?_
  apply Exists.intro
  refine ⟨fun wq hq => ?_, ?_⟩
  · have hx0 := cells_of hq.c0
    have hx1 := cells_of hq.c1
    have hx2 := cells_of hq.c2
    have hx3 := cells_of hq.c3
    have hx4 := cells_of hq.c4
    go_simp
    rfl
  simp only [Act.put, List.setIfInBounds_toArray, List.set_cons_zero, List.set_cons_succ]
  refine q_val (by rfl) ?_
  apply Exists.intro
  refine ⟨fun wq hq => ?_, ?_⟩
  · have hx0 := cells_of hq.c0
    have hx1 := cells_of hq.c1
    have hx2 := cells_of hq.c2
    have hx3 := cells_of hq.c3
    have hx4 := cells_of hq.c4
    go_simp
    rfl
  simp only [Act.put, List.setIfInBounds_toArray, List.set_cons_zero, List.set_cons_succ]
  refine q_val (by rfl) ⟨i64 (load + B.sink), fun wq hq => ?_, ?_⟩
  · go_simp
    rw [wrap_fit (by omega) (by omega)]
  simp only [Act.put, List.setIfInBounds_toArray, List.set_cons_zero, List.set_cons_succ]
  refine q_val (by rfl) ⟨i64 (load + B.sink - 1), fun wq hq => ?_, ?_⟩
  · go_simp
    rw [wrap_fit (by omega) (by omega)]
  simp only [Act.put, List.setIfInBounds_toArray, List.set_cons_zero, List.set_cons_succ]
  refine q_val (by rfl) ?_
  apply Exists.intro
  refine ⟨fun wq hq => ?_, ?_⟩
  · have hx0 := cells_of hq.c0
    have hx1 := cells_of hq.c1
    have hx2 := cells_of hq.c2
    have hx3 := cells_of hq.c3
    have hx4 := cells_of hq.c4
    go_simp
    rfl
  simp only [Act.put, List.setIfInBounds_toArray, List.set_cons_zero, List.set_cons_succ]
  refine q_val (by rfl) ?_
  apply Exists.intro
  refine ⟨fun wq hq => ?_, ?_⟩
  · have hx0 := cells_of hq.c0
    have hx1 := cells_of hq.c1
    have hx2 := cells_of hq.c2
    have hx3 := cells_of hq.c3
    have hx4 := cells_of hq.c4
    go_simp
    rfl
  simp only [Act.put, List.setIfInBounds_toArray, List.set_cons_zero, List.set_cons_succ]
  refine q_val (by rfl) ?_
  apply Exists.intro
  refine ⟨fun wq hq => ?_, ?_⟩
  · have hx0 := cells_of hq.c0
    have hx1 := cells_of hq.c1
    have hx2 := cells_of hq.c2
    have hx3 := cells_of hq.c3
    have hx4 := cells_of hq.c4
    go_simp
    rfl
  simp only [Act.put, List.setIfInBounds_toArray, List.set_cons_zero, List.set_cons_succ]
  refine q_val (by rfl) ⟨i64 (Q), fun wq hq => ?_, ?_⟩
  · go_simp
    rw [wrap_fit (by omega) (by omega)]
  simp only [Act.put, List.setIfInBounds_toArray, List.set_cons_zero, List.set_cons_succ]
  refine q_val (by rfl) ⟨i64 (ev + Q), fun wq hq => ?_, ?_⟩
  · go_simp
    rw [wrap_fit (by omega) (by omega)]
  simp only [Act.put, List.setIfInBounds_toArray, List.set_cons_zero, List.set_cons_succ]
  refine q_val (by rfl) ?_
  apply Exists.intro
  refine ⟨fun wq hq => ?_, ?_⟩
  · have hx0 := cells_of hq.c0
    have hx1 := cells_of hq.c1
    have hx2 := cells_of hq.c2
    have hx3 := cells_of hq.c3
    have hx4 := cells_of hq.c4
    go_simp
    rfl
  simp only [Act.put, List.setIfInBounds_toArray, List.set_cons_zero, List.set_cons_succ]
  refine q_val (by rfl) ?_
  apply Exists.intro
  refine ⟨fun wq hq => ?_, ?_⟩
  · have hx0 := cells_of hq.c0
    have hx1 := cells_of hq.c1
    have hx2 := cells_of hq.c2
    have hx3 := cells_of hq.c3
    have hx4 := cells_of hq.c4
    go_simp
    rfl
  simp only [Act.put, List.setIfInBounds_toArray, List.set_cons_zero, List.set_cons_succ]
  refine q_val (by rfl) ?_
  apply Exists.intro
  refine ⟨fun wq hq => ?_, ?_⟩
  · have hx0 := cells_of hq.c0
    have hx1 := cells_of hq.c1
    have hx2 := cells_of hq.c2
    have hx3 := cells_of hq.c3
    have hx4 := cells_of hq.c4
    go_simp
    rfl
  simp only [Act.put, List.setIfInBounds_toArray, List.set_cons_zero, List.set_cons_succ]
  refine q_val (by rfl) ⟨i64 (ev + Q + B.under), fun wq hq => ?_, ?_⟩
  · go_simp
    rw [wrap_fit (by omega) (by omega)]
  simp only [Act.put, List.setIfInBounds_toArray, List.set_cons_zero, List.set_cons_succ]
  refine q_val (by rfl) ?_
  apply Exists.intro
  refine ⟨fun wq hq => ?_, ?_⟩
  · have hx0 := cells_of hq.c0
    have hx1 := cells_of hq.c1
    have hx2 := cells_of hq.c2
    have hx3 := cells_of hq.c3
    have hx4 := cells_of hq.c4
    go_simp
    rfl
  simp only [Act.put, List.setIfInBounds_toArray, List.set_cons_zero, List.set_cons_succ]
  clear hL0 hcf hev
  intro w2 hq
  obtain ⟨q1, q2, q3, q4, q5, q6, q7⟩ := hq
  have hx1 := cells_of q4
  have hx2 := cells_of q5
  have hx4 := cells_of q7
  clear q3 q4 q5 q6 q7
  have y1 : w.heap.size + 1 < w2.heap.size := by omega
  have y2 : w.heap.size + 1 + 1 < w2.heap.size := by omega
  have y4 : w.heap.size + 1 + 1 + 1 + 1 < w2.heap.size := by omega
  by_cases hd : h - f0 ≥ ev + Q + B.under
  · have fin : Hid (landsB B 0 load h f0 ev = inB h B.s0.lo B.s0.hi) := by
      show _ = _
      have := hQ.out
      simp only [landsB, ← this]
      rw [decide_eq_true (by omega : h - f0 ≥ ev + Q + B.under)]
      simp
    go_wp2_with (go_at_call 80; refine (within_any _ _ _ _).mono ?_; rintro e w' ⟨rfl, rfl⟩)
    go_ret
    exact ⟨by rw [fin.out]; rfl, q1⟩
  · have fin : Hid (landsB B 0 load h f0 ev = false) := by
      show _ = _
      have := hQ.out
      simp only [landsB, ← this]
      rw [decide_eq_false (by omega : ¬ h - f0 ≥ ev + Q + B.under)]
      simp
    go_wp2_with fail
    go_ret
    exact ⟨by rw [fin.out]; rfl, q1⟩
set_option maxRecDepth 100000 in
set_option maxHeartbeats 1000000 in
theorem lands_at1 (B : Book) (ta : Option Addr) (tc : Nat) (sa : Option Addr) (sc m : Nat) (can : Option Addr) (cn cc : Nat) (hour load h f0 f1 : Int) (fid : Nat) (ev : Int) (w : World) (hB : Sane B)
    (hcf : ∀ w, (callFunc fid #[.agg #[i64 B.el, i64 B.eh]]).run Tryd.prog w = .ok (.enter fid #[.agg #[i64 B.el, i64 B.eh]]) w)
    (hev : ∀ w, Calls Tryd.prog fid #[.agg #[i64 B.el, i64 B.eh]] w fun e w' => e = .returned (i64 ev) ∧ Below w.heap.size w w') (e0 : 0 ≤ ev) (e1 : ev ≤ 100)
    (l0 : 0 ≤ load) (l1 : load ≤ 1000) (h1 : -1000 ≤ h) (h2 : h ≤ 1000) (h3 : -1000 ≤ f1) (h4 : f1 ≤ 1000) :
    Calls Tryd.prog 101 #[calcVal B ta tc sa sc m (.slice can cn cc), .agg #[i64 hour, i64 1], i64 load, i64 h, .agg #[i64 f0, i64 f1], .agg #[.func (.func fid) #[] #[]]] w (LandsPost B 1 load h f1 ev w) := by
  obtain ⟨b1, b2, b3, b4, b5, b6, b7⟩ := hB
  have hk : ¬ B.sink = 0 := by omega
  obtain ⟨Q, hQ, hQ0, hQ1, hQ2⟩ : ∃ Q, Hid (Q = (load + B.sink - 1) / B.sink) ∧ (load + B.sink - 1).tdiv B.sink = Q ∧ 0 ≤ Q ∧ Q ≤ 2000 :=
    ⟨_, Lib.hid rfl, Int.tdiv_eq_ediv_of_nonneg (by omega), Int.ediv_nonneg (by omega) (by omega), Int.le_trans (Int.ediv_le_self _ (by omega)) (by omega)⟩
  go_enter Tryd.func101, Tryd.ntmps101
  go_wp2_with fail
  have hL0 : LC B ta tc sa sc m (.slice can cn cc) hour 1 f0 f1 fid w.heap.size w (((((w.alloc (.cells (calcCells B ta tc sa sc m (.slice can cn cc)) 93)).alloc (.cells #[i64 hour, i64 1] 107)).alloc (.cells #[i64 f0, i64 f1] 99)).alloc (.cells #[.func (.func fid) #[] #[]] 128)).alloc (.cells #[i64 B.s1.fl, i64 B.s1.fh, i64 B.s1.lo, i64 B.s1.hi] 26)) :=
    by
      obtain ⟨p1, p2, p3, p4, p5, p6, p7⟩ := alloc5 w (.cells (calcCells B ta tc sa sc m (.slice can cn cc)) 93) (.cells #[i64 hour, i64 1] 107) (.cells #[i64 f0, i64 f1] 99) (.cells #[.func (.func fid) #[] #[]] 128) (.cells #[i64 B.s1.fl, i64 B.s1.fh, i64 B.s1.lo, i64 B.s1.hi] 26)
      exact ⟨p1, by omega, p3, p4, p5, p6, p7⟩
  refine q_region (LC B ta tc sa sc m (.slice can cn cc) hour 1 f0 f1 fid w.heap.size w) (by kernel_rfl) (by kernel_rfl) (fun n => hL0.drawn n) ?_
  refine q_val (by rfl) ?_
  apply Exists.intro
  refine ⟨fun wq hq => ?_, ?_⟩
  · have hx0 := cells_of hq.c0
    have hx1 := cells_of hq.c1
    have hx2 := cells_of hq.c2
    have hx3 := cells_of hq.c3
    have hx4 := cells_of hq.c4
    go_simp
    rfl
  simp only [Act.put, List.setIfInBounds_toArray, List.set_cons_zero, List.set_cons_succ]
  refine q_val (by rfl) ?_
  apply Exists.intro
  refine ⟨fun wq hq => ?_, ?_⟩
  · have hx0 := cells_of hq.c0
    have hx1 := cells_of hq.c1
    have hx2 := cells_of hq.c2
    have hx3 := cells_of hq.c3
    have hx4 := cells_of hq.c4
    go_simp
    rfl
  simp only [Act.put, List.setIfInBounds_toArray, List.set_cons_zero, List.set_cons_succ]
  refine q_val (by rfl) ?_
  apply Exists.intro
  refine ⟨fun wq hq => ?_, ?_⟩
  · have hx0 := cells_of hq.c0
    have hx1 := cells_of hq.c1
    have hx2 := cells_of hq.c2
    have hx3 := cells_of hq.c3
    have hx4 := cells_of hq.c4
    go_simp
    rfl
  simp only [Act.put, List.setIfInBounds_toArray, List.set_cons_zero, List.set_cons_succ]
  refine q_val (by rfl) ?_
  apply Exists.intro
  refine ⟨fun wq hq => ?_, ?_⟩
  · have hx0 := cells_of hq.c0
    have hx1 := cells_of hq.c1
    have hx2 := cells_of hq.c2
    have hx3 := cells_of hq.c3
    have hx4 := cells_of hq.c4
    go_simp
    rfl
  simp only [Act.put, List.setIfInBounds_toArray, List.set_cons_zero, List.set_cons_succ]
  refine q_val (by rfl) ?_
  apply Exists.intro
  refine ⟨fun wq hq => ?_, ?_⟩
  · have hx0 := cells_of hq.c0
    have hx1 := cells_of hq.c1
    have hx2 := cells_of hq.c2
    have hx3 := cells_of hq.c3
    have hx4 := cells_of hq.c4
    go_simp
    rfl
  simp only [Act.put, List.setIfInBounds_toArray, List.set_cons_zero, List.set_cons_succ]
  refine q_call (by rfl) (i64 ev) fid #[.agg #[i64 B.el, i64 B.eh]] ?_ ?_ ?_
  · intro wq hq
    go_simp
  · intro wq hq
    refine (hev wq).mono ?_
    rintro e w' ⟨rfl, hb⟩
    exact ⟨rfl, hq.more hb⟩
  simp only [Act.put, List.setIfInBounds_toArray, List.set_cons_zero, List.set_cons_succ]
  refine q_val (by rfl) ?_
  apply Exists.intro
  refine ⟨fun wq hq => ?_, ?_⟩
  · have hx0 := cells_of hq.c0
    have hx1 := cells_of hq.c1
    have hx2 := cells_of hq.c2
    have hx3 := cells_of hq.c3
    have hx4 := cells_of hq.c4
    go_simp
    rfl
  simp only [Act.put, List.setIfInBounds_toArray, List.set_cons_zero, List.set_cons_succ]
  refine q_val (by rfl) ?_
  apply Exists.intro
  refine ⟨fun wq hq => ?_, ?_⟩
  · have hx0 := cells_of hq.c0
    have hx1 := cells_of hq.c1
    have hx2 := cells_of hq.c2
    have hx3 := cells_of hq.c3
    have hx4 := cells_of hq.c4
    go_simp
    rfl
  simp only [Act.put, List.setIfInBounds_toArray, List.set_cons_zero, List.set_cons_succ]
  refine q_val (by rfl) ?_
  apply Exists.intro
  refine ⟨fun wq hq => ?_, ?_⟩
  · have hx0 := cells_of hq.c0
    have hx1 := cells_of hq.c1
    have hx2 := cells_of hq.c2
    have hx3 := cells_of hq.c3
    have hx4 := cells_of hq.c4
    go_simp
    rfl
  simp only [Act.put, List.setIfInBounds_toArray, List.set_cons_zero, List.set_cons_succ]
  refine q_val (by rfl) ?_
  apply Exists.intro
  refine ⟨fun wq hq => ?_, ?_⟩
  · have hx0 := cells_of hq.c0
    have hx1 := cells_of hq.c1
    have hx2 := cells_of hq.c2
    have hx3 := cells_of hq.c3
    have hx4 := cells_of hq.c4
    go_simp
    rfl
  simp only [Act.put, List.setIfInBounds_toArray, List.set_cons_zero, List.set_cons_succ]
  refine q_val (by rfl) ⟨i64 (load + B.sink), fun wq hq => ?_, ?_⟩
  · go_simp
    rw [wrap_fit (by omega) (by omega)]
  simp only [Act.put, List.setIfInBounds_toArray, List.set_cons_zero, List.set_cons_succ]
  refine q_val (by rfl) ⟨i64 (load + B.sink - 1), fun wq hq => ?_, ?_⟩
  · go_simp
    rw [wrap_fit (by omega) (by omega)]
  simp only [Act.put, List.setIfInBounds_toArray, List.set_cons_zero, List.set_cons_succ]
  refine q_val (by rfl) ?_
  apply Exists.intro
  refine ⟨fun wq hq => ?_, ?_⟩
  · have hx0 := cells_of hq.c0
    have hx1 := cells_of hq.c1
    have hx2 := cells_of hq.c2
    have hx3 := cells_of hq.c3
    have hx4 := cells_of hq.c4
    go_simp
    rfl
  simp only [Act.put, List.setIfInBounds_toArray, List.set_cons_zero, List.set_cons_succ]
  refine q_val (by rfl) ?_
  apply Exists.intro
  refine ⟨fun wq hq => ?_, ?_⟩
  · have hx0 := cells_of hq.c0
    have hx1 := cells_of hq.c1
    have hx2 := cells_of hq.c2
    have hx3 := cells_of hq.c3
    have hx4 := cells_of hq.c4
    go_simp
    rfl
  simp only [Act.put, List.setIfInBounds_toArray, List.set_cons_zero, List.set_cons_succ]
  refine q_val (by rfl) ?_
  apply Exists.intro
  refine ⟨fun wq hq => ?_, ?_⟩
  · have hx0 := cells_of hq.c0
    have hx1 := cells_of hq.c1
    have hx2 := cells_of hq.c2
    have hx3 := cells_of hq.c3
    have hx4 := cells_of hq.c4
    go_simp
    rfl
  simp only [Act.put, List.setIfInBounds_toArray, List.set_cons_zero, List.set_cons_succ]
  refine q_val (by rfl) ⟨i64 (Q), fun wq hq => ?_, ?_⟩
  · go_simp
    rw [wrap_fit (by omega) (by omega)]
  simp only [Act.put, List.setIfInBounds_toArray, List.set_cons_zero, List.set_cons_succ]
  refine q_val (by rfl) ⟨i64 (ev + Q), fun wq hq => ?_, ?_⟩
  · go_simp
    rw [wrap_fit (by omega) (by omega)]
  simp only [Act.put, List.setIfInBounds_toArray, List.set_cons_zero, List.set_cons_succ]
  refine q_val (by rfl) ?_
  apply Exists.intro
  refine ⟨fun wq hq => ?_, ?_⟩
  · have hx0 := cells_of hq.c0
    have hx1 := cells_of hq.c1
    have hx2 := cells_of hq.c2
    have hx3 := cells_of hq.c3
    have hx4 := cells_of hq.c4
    go_simp
    rfl
  simp only [Act.put, List.setIfInBounds_toArray, List.set_cons_zero, List.set_cons_succ]
  refine q_val (by rfl) ?_
  apply Exists.intro
  refine ⟨fun wq hq => ?_, ?_⟩
  · have hx0 := cells_of hq.c0
    have hx1 := cells_of hq.c1
    have hx2 := cells_of hq.c2
    have hx3 := cells_of hq.c3
    have hx4 := cells_of hq.c4
    go_simp
    rfl
  simp only [Act.put, List.setIfInBounds_toArray, List.set_cons_zero, List.set_cons_succ]
  refine q_val (by rfl) ?_
  apply Exists.intro
  refine ⟨fun wq hq => ?_, ?_⟩
  · have hx0 := cells_of hq.c0
    have hx1 := cells_of hq.c1
    have hx2 := cells_of hq.c2
    have hx3 := cells_of hq.c3
    have hx4 := cells_of hq.c4
    go_simp
    rfl
  simp only [Act.put, List.setIfInBounds_toArray, List.set_cons_zero, List.set_cons_succ]
  refine q_val (by rfl) ⟨i64 (ev + Q + B.under), fun wq hq => ?_, ?_⟩
  · go_simp
    rw [wrap_fit (by omega) (by omega)]
  simp only [Act.put, List.setIfInBounds_toArray, List.set_cons_zero, List.set_cons_succ]
  refine q_val (by rfl) ?_
  apply Exists.intro
  refine ⟨fun wq hq => ?_, ?_⟩
  · have hx0 := cells_of hq.c0
    have hx1 := cells_of hq.c1
    have hx2 := cells_of hq.c2
    have hx3 := cells_of hq.c3
    have hx4 := cells_of hq.c4
    go_simp
    rfl
  simp only [Act.put, List.setIfInBounds_toArray, List.set_cons_zero, List.set_cons_succ]
  clear hL0 hcf hev
  intro w2 hq
  obtain ⟨q1, q2, q3, q4, q5, q6, q7⟩ := hq
  have hx1 := cells_of q4
  have hx2 := cells_of q5
  have hx4 := cells_of q7
  clear q3 q4 q5 q6 q7
  have y1 : w.heap.size + 1 < w2.heap.size := by omega
  have y2 : w.heap.size + 1 + 1 < w2.heap.size := by omega
  have y4 : w.heap.size + 1 + 1 + 1 + 1 < w2.heap.size := by omega
  by_cases hd : h - f1 ≥ ev + Q + B.under
  · have fin : Hid (landsB B 1 load h f1 ev = inB h B.s1.lo B.s1.hi) := by
      show _ = _
      have := hQ.out
      simp only [landsB, ← this]
      rw [decide_eq_true (by omega : h - f1 ≥ ev + Q + B.under)]
      simp
    go_wp2_with (go_at_call 80; refine (within_any _ _ _ _).mono ?_; rintro e w' ⟨rfl, rfl⟩)
    go_ret
    exact ⟨by rw [fin.out]; rfl, q1⟩
  · have fin : Hid (landsB B 1 load h f1 ev = false) := by
      show _ = _
      have := hQ.out
      simp only [landsB, ← this]
      rw [decide_eq_false (by omega : ¬ h - f1 ≥ ev + Q + B.under)]
      simp
    go_wp2_with fail
    go_ret
    exact ⟨by rw [fin.out]; rfl, q1⟩
theorem lands_high (B : Book) (ta : Option Addr) (tc : Nat) (sa : Option Addr) (sc m : Nat) (can : Option Addr) (cn cc : Nat) (hour s load h f0 f1 : Int) (hs : s = 0 ∨ s = 1) (w : World) (hB : Sane B)
    (l0 : 0 ≤ load) (l1 : load ≤ 1000) (h1 : -1000 ≤ h) (h2 : h ≤ 1000) (h3 : -1000 ≤ f0) (h4 : f0 ≤ 1000) (h5 : -1000 ≤ f1) (h6 : f1 ≤ 1000) :
    Calls Tryd.prog 101 #[calcVal B ta tc sa sc m (.slice can cn cc), .agg #[i64 hour, i64 s], i64 load, i64 h, .agg #[i64 f0, i64 f1], .agg #[.func (.func 106) #[] #[]]] w (LandsPost B s load h (if s = 0 then f0 else f1) B.eh w) := by
  have hcf : ∀ w, (callFunc 106 #[.agg #[i64 B.el, i64 B.eh]]).run Tryd.prog w = .ok (.enter 106 #[.agg #[i64 B.el, i64 B.eh]]) w := fun w => enters_of Tryd.func106 (by kernel_rfl) rfl _ w
  have x1 := hB.el
  have x2 := hB.ee
  have x3 := hB.eh
  rcases hs with rfl | rfl
  · exact lands_at0 B ta tc sa sc m can cn cc hour load h f0 f1 106 _ w hB hcf (high1_any _ _) (by omega) (by omega) l0 l1 h1 h2 h3 h4
  · exact lands_at1 B ta tc sa sc m can cn cc hour load h f0 f1 106 _ w hB hcf (high1_any _ _) (by omega) (by omega) l0 l1 h1 h2 h5 h6
theorem lands_low (B : Book) (ta : Option Addr) (tc : Nat) (sa : Option Addr) (sc m : Nat) (can : Option Addr) (cn cc : Nat) (hour s load h f0 f1 : Int) (hs : s = 0 ∨ s = 1) (w : World) (hB : Sane B)
    (l0 : 0 ≤ load) (l1 : load ≤ 1000) (h1 : -1000 ≤ h) (h2 : h ≤ 1000) (h3 : -1000 ≤ f0) (h4 : f0 ≤ 1000) (h5 : -1000 ≤ f1) (h6 : f1 ≤ 1000) :
    Calls Tryd.prog 101 #[calcVal B ta tc sa sc m (.slice can cn cc), .agg #[i64 hour, i64 s], i64 load, i64 h, .agg #[i64 f0, i64 f1], .agg #[.func (.func 125) #[] #[]]] w (LandsPost B s load h (if s = 0 then f0 else f1) B.el w) := by
  have hcf : ∀ w, (callFunc 125 #[.agg #[i64 B.el, i64 B.eh]]).run Tryd.prog w = .ok (.enter 125 #[.agg #[i64 B.el, i64 B.eh]]) w := fun w => enters_of Tryd.func125 (by kernel_rfl) rfl _ w
  have x1 := hB.el
  have x2 := hB.ee
  have x3 := hB.eh
  rcases hs with rfl | rfl
  · exact lands_at0 B ta tc sa sc m can cn cc hour load h f0 f1 125 _ w hB hcf (low1_any _ _) (by omega) (by omega) l0 l1 h1 h2 h3 h4
  · exact lands_at1 B ta tc sa sc m can cn cc hour load h f0 f1 125 _ w hB hcf (low1_any _ _) (by omega) (by omega) l0 l1 h1 h2 h5 h6
end Go.Proofs.YtkbmpkdflgimmaaDoor
