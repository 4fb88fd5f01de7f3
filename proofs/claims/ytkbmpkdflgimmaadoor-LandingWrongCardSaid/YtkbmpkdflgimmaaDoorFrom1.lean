/- The closure of opened: its calls at the second shore and at the first. -/
import Derived.Test.YtkbmpkdflgimmaaDoorFrom
namespace Go.Proofs.YtkbmpkdflgimmaaDoor
open Go.RowKit Go.Shelf

/-- The heights of a bottom. -/
structure ShOk (x : Shore) : Prop where
  lo : -40 ≤ x.fl
  le : x.fl ≤ x.fh
  hi : x.fh ≤ 80
  near : x.fh - x.fl ≤ 4
def preC1 (B : Book) (D : Int → Int → List Int) (f0 : Int) (k : Nat) : List (Int × Int) := (List.range k).flatMap fun (n : Nat) => extC B D f0 (B.s1.fl + (n : Int))
def ext1 (B : Book) (D : Int → Int → List Int) (f0 : Int) : List (Int × Int) := preC1 B D f0 (B.s1.fh - B.s1.fl + 1).toNat
def preC0 (B : Book) (D : Int → Int → List Int) (k : Nat) : List (Int × Int) := (List.range k).flatMap fun (n : Nat) => ext1 B D (B.s0.fl + (n : Int))
def ext0 (B : Book) (D : Int → Int → List Int) : List (Int × Int) := preC0 B D (B.s0.fh - B.s0.fl + 1).toNat
theorem preC1_succ (B : Book) (D f0) (k : Nat) : preC1 B D f0 (k + 1) = preC1 B D f0 k ++ extC B D f0 (B.s1.fl + (k : Int)) := by simp [preC1, List.range_succ]
theorem preC0_succ (B : Book) (D) (k : Nat) : preC0 B D (k + 1) = preC0 B D k ++ ext1 B D (B.s0.fl + (k : Int)) := by simp [preC0, List.range_succ]
theorem extC_len (B : Book) (D f0 f1) : (extC B D f0 f1).length ≤ 1 := by unfold extC; split <;> simp
theorem preC1_len (B : Book) (D f0) (k : Nat) : (preC1 B D f0 k).length ≤ 1 * k := by
  induction k with
  | zero => simp [preC1]
  | succ k ih => rw [preC1_succ, List.length_append]; have := extC_len B D f0 (B.s1.fl + (k : Int)); omega
theorem preC0_len (B : Book) (D) (k : Nat) (h : ShOk B.s1) : (preC0 B D k).length ≤ 5 * k := by
  induction k with
  | zero => simp [preC0]
  | succ k ih =>
    rw [preC0_succ, List.length_append]
    have := preC1_len B D (B.s0.fl + (k : Int)) (B.s1.fh - B.s1.fl + 1).toNat
    have := h.near
    unfold ext1
    omega
theorem set_two0 {W : World} {z : Nat} {a b : Value} {t : TypeId} (h : W.heap[z]? = some (.cells #[a, b] t (0, 0))) (v : Value) : (W.setCell ⟨z, 0, none⟩ v).heap[z]? = some (.cells #[v, b] t (0, 0)) := by simp [World.setCell, Array.getElem?_modify, h]
theorem set_two1 {W : World} {z : Nat} {a b : Value} {t : TypeId} (h : W.heap[z]? = some (.cells #[a, b] t (0, 0))) (v : Value) : (W.setCell ⟨z, 1, none⟩ v).heap[z]? = some (.cells #[a, v] t (0, 0)) := by simp [World.setCell, Array.getElem?_modify, h]
theorem Op0.set {nA nM xb fb bb : Nat} {B : Book} {tb tq : Nat} {ta : Option Addr} {tc : Nat} {sa : Option Addr} {sc m : Nat} {D : Int → Int → List Int} {W : World} {z : Nat}
    (h : Op0 nA nM xb fb bb B tb tq ta tc sa sc m D W) (hz : nM ≤ z) (j : Nat) (v : Value) : Op0 nA nM xb fb bb B tb tq ta tc sa sc m D (W.setCell ⟨z, j, none⟩ v) :=
  h.same ⟨by simp [World.setCell], fun k hk _ => Below.heap_setCell _ _ _ k (by show k ≠ z; omega)⟩
theorem BB.set {nM bb B ta tc sa sc m l cv W} {z : Nat} (h : BB nM bb B ta tc sa sc m l cv W) (hr : cv.ownBlock ≠ some z) (hb : z ≠ bb) (j : Nat) (v : Value) : BB nM bb B ta tc sa sc m l cv (W.setCell ⟨z, j, none⟩ v) :=
  ⟨(Below.heap_setCell _ _ _ bb (fun e => hb e.symm)).trans h.box, h.own.kept (row := some z) ⟨rfl, rfl, rfl, by simp [World.setCell], fun k _ hk => Below.heap_setCell _ _ _ k (fun e => hk (by rw [e]))⟩ (.inr hr)⟩
theorem Step.set {bb : Nat} {cv cv' : Value} {W W' : World} {z : Nat} (h : Step bb cv cv' W W') (hz : W.heap.size ≤ z) (j : Nat) (v : Value) : Step bb cv cv' W (W'.setCell ⟨z, j, none⟩ v) :=
  ⟨h.os, h.tape, h.output, by simpa [World.setCell] using h.size, fun k hk hb hr => (Below.heap_setCell _ _ _ k (by show k ≠ z; omega)).trans (h.keep k hk hb hr), h.row⟩
set_option maxRecDepth 100000 in
set_option maxHeartbeats 2000000 in
theorem from1 (nA nM xb fb bb : Nat) (B : Book) (tb tq : Nat) (ta : Option Addr) (tc : Nat) (sa : Option Addr) (sc m : Nat) (D : Int → Int → List Int) (f0 g1 : Int) (l : List (Int × Int)) (cv : Value) (W : World)
    (h0 : Op0 nA nM xb fb bb B tb tq ta tc sa sc m D W) (hb : BB nM bb B ta tc sa sc m l cv W) (hh : ∀ k, k < B.tides.length → HourOk B k) (hl : l.length ≤ 900) (hs1 : ShOk B.s1)
    (h3 : -40 ≤ f0) (h4 : f0 ≤ 100) : Calls Tryd.prog 95 #[.agg #[i64 f0, i64 g1], i64 1, .pointer (some ⟨xb, 0, none⟩), .pointer (some ⟨fb, 0, none⟩), .pointer (some ⟨bb, 0, none⟩)] W
      (FromPost nM bb B ta tc sa sc m (l ++ ext1 B D f0) cv W) := by
  obtain ⟨s1, s2, s3, s4⟩ := hs1
  have hx := cells_of h0.x
  have hxl : xb < W.heap.size := Nat.lt_of_lt_of_le h0.xm.1 h0.sz
  have hzM : nM ≤ W.heap.size := h0.sz
  have hzb : W.heap.size ≠ bb := by have := h0.bm; omega
  have hrow0 : ∀ g, cv.ownBlock = some g → g < W.heap.size := fun g hg => (hb.own.lt g hg).2
  have hW1 : Below W.heap.size W ((W.alloc (.cells #[i64 f0, i64 g1] 99)).alloc (.cells #[i64 B.s1.fl, i64 B.s1.fh] 24)) := ((Below.refl _ W).alloc (Nat.le_refl _) _).alloc (by simp) _
  have hB0 := hb.below hW1
  have hO0 := h0.same (Step.sameBut (Step.of_below (bb := bb) (cv := cv) hW1) h0.sz hb.row)
  have hf0 : ((W.alloc (.cells #[i64 f0, i64 g1] 99)).alloc (.cells #[i64 B.s1.fl, i64 B.s1.fh] 24)).heap[W.heap.size]? = some (.cells #[i64 f0, i64 g1] 99 (0, 0)) := (Below.heap_alloc _ _ _ (by simp)).trans (heap_alloc_new W _)
  have hg0 : ((W.alloc (.cells #[i64 f0, i64 g1] 99)).alloc (.cells #[i64 B.s1.fl, i64 B.s1.fh] 24)).heap[W.heap.size + 1]? = some (.cells #[i64 B.s1.fl, i64 B.s1.fh] 24 (0, 0)) := heap_alloc2_new W _ _
  have hS0 : Step bb cv cv W ((W.alloc (.cells #[i64 f0, i64 g1] 99)).alloc (.cells #[i64 B.s1.fl, i64 B.s1.fh] 24)) := Step.of_below hW1
  go_enter Tryd.func95, Tryd.ntmps95
  go_wp2_with fail
  go_loopw [23] (fun i wr => ∃ k : Nat, k ≤ (B.s1.fh - B.s1.fl + 1).toNat ∧ i = .int .i64 k ∧ ∃ cv1 gk, BB nM bb B ta tc sa sc m (l ++ preC1 B D f0 k) cv1 wr ∧ Op0 nA nM xb fb bb B tb tq ta tc sa sc m D wr ∧
      wr.heap[W.heap.size]? = some (.cells #[i64 f0, i64 gk] 99 (0, 0)) ∧ wr.heap[W.heap.size + 1]? = some (.cells #[i64 B.s1.fl, i64 B.s1.fh] 24 (0, 0)) ∧ Step bb cv cv1 W wr ∧ (∀ g, cv1.ownBlock = some g → g < W.heap.size ∨ W.heap.size + 2 ≤ g))
      (fun i _ => (B.s1.fh - B.s1.fl + 1).toNat - (intOf i).toNat)
  case atStart => exact ⟨0, Nat.zero_le _, rfl, cv, g1, by simpa [preC1] using hB0, hO0, hf0, hg0, hS0, fun g hg => .inl (hrow0 g hg)⟩
  case round =>
    clear hx hB0 hO0 hf0 hg0 hS0 hW1
    obtain ⟨k, hk, rfl, cv1, gk, hB1, hO1, hf1, hg1, hS1, hr1⟩ := hrel
    have hfc := cells_of hf1
    have hff := frozen_of hf1
    have hgc := cells_of hg1
    have hzl := (Array.getElem?_eq_some_iff.1 hf1).1
    have hzl1 := (Array.getElem?_eq_some_iff.1 hg1).1
    have hfnl : fb < wr.heap.size := Nat.lt_of_lt_of_le hO1.fm.1 hO1.sz
    have hfnc := cells_of hO1.f
    have hfz : fb ≠ W.heap.size := by have := hO1.fm.1; omega
    have hzr : cv1.ownBlock ≠ some W.heap.size := fun e => by rcases hr1 _ e with h | h <;> omega
    have hzr1 : cv1.ownBlock ≠ some (W.heap.size + 1) := fun e => by rcases hr1 _ e with h | h <;> omega
    have hzb1 : W.heap.size + 1 ≠ bb := by have := hO1.bm; omega
    have hz01 : W.heap.size ≠ W.heap.size + 1 := by omega
    by_cases hlt : k < (B.s1.fh - B.s1.fl + 1).toNat
    · have hlt' : (k : Int) < B.s1.fh - B.s1.fl + 1 := by omega
      have hlen : (l ++ preC1 B D f0 k).length ≤ l.length + 1 * k := by
        have := preC1_len B D f0 k
        simp; omega
      have hk4 : k ≤ 4 := by omega
      have heq := Lib.hid (preC1_succ B D f0 k)
      have hq0 := set_two1 hf1 (i64 (B.s1.fl + (k : Int)))
      have hqc := cells_of hq0
      have hqn := cells_of ((Below.heap_setCell wr ⟨W.heap.size, 1, none⟩ (i64 (B.s1.fl + (k : Int))) fb hfz).trans hO1.f)
      have hq1 := (Below.heap_setCell wr ⟨W.heap.size, 1, none⟩ (i64 (B.s1.fl + (k : Int))) (W.heap.size + 1) (Ne.symm hz01)).trans hg1
      have hSq := hS1.set (Nat.le_refl _) 1 (i64 (B.s1.fl + (k : Int)))
      go_wp2_with (go_at_call 95; refine (from2 nA nM xb fb bb B tb tq ta tc sa sc m D f0 (B.s1.fl + (k : Int)) (l ++ preC1 B D f0 k) cv1 _ (hO1.set hzM _ _) (hB1.set hzr hzb _ _) hh (by omega) (by omega) (by omega) (by omega) (by omega)).mono ?_; rintro e w' ⟨rfl, cv2, hB2, hS2⟩; have hf2 := (hS2.keep _ (by simpa [World.setCell] using hzl) hzb hzr).trans hq0; have hg2 := (hS2.keep _ (by simpa [World.setCell] using hzl1) hzb1 hzr1).trans hq1; have hO2 := (hO1.set hzM 1 (i64 (B.s1.fl + (k : Int)))).same (hS2.sameBut (by simp [World.setCell]; have := hO1.sz; omega) hB1.row); have hS3 := hSq.trans hS2; have hsz2 := hS2.size)
      go_roundw
      case rel =>
        refine ⟨k + 1, by omega, by go_num, cv2, _, ?_, by assumption, by assumption, by assumption, by assumption, ?_⟩
        · rw [heq.out, ← List.append_assoc]; assumption
        · intro g hg
          rcases hS2.row g hg with h | h
          · exact hr1 g h
          · refine .inr ?_
            simp [World.setCell] at h
            omega
      case measure => simp [intOf]; omega
    · have hke : k = (B.s1.fh - B.s1.fl + 1).toNat := by omega
      have hfin : Hid (l ++ ext1 B D f0 = l ++ preC1 B D f0 k) := by
        show _ = _
        rw [hke]; rfl
      have hlt' : ¬ (k : Int) < B.s1.fh - B.s1.fl + 1 := by omega
      clear hke
      go_wp2_with fail
      refine bodyPost_ret (results_none rfl _ _ _) rfl ⟨rfl, cv1, ?_, hS1⟩
      rw [hfin.out]
      exact hB1
set_option maxRecDepth 100000 in
set_option maxHeartbeats 2000000 in
theorem from0 (nA nM xb fb bb : Nat) (B : Book) (tb tq : Nat) (ta : Option Addr) (tc : Nat) (sa : Option Addr) (sc m : Nat) (D : Int → Int → List Int) (g0 g1 : Int) (l : List (Int × Int)) (cv : Value) (W : World)
    (h0 : Op0 nA nM xb fb bb B tb tq ta tc sa sc m D W) (hb : BB nM bb B ta tc sa sc m l cv W) (hh : ∀ k, k < B.tides.length → HourOk B k) (hl : l.length ≤ 100) (hs1 : ShOk B.s1) (hs0 : ShOk B.s0)
    : Calls Tryd.prog 95 #[.agg #[i64 g0, i64 g1], i64 0, .pointer (some ⟨xb, 0, none⟩), .pointer (some ⟨fb, 0, none⟩), .pointer (some ⟨bb, 0, none⟩)] W
      (FromPost nM bb B ta tc sa sc m (l ++ ext0 B D) cv W) := by
  obtain ⟨s1, s2, s3, s4⟩ := hs0
  have hx := cells_of h0.x
  have hxl : xb < W.heap.size := Nat.lt_of_lt_of_le h0.xm.1 h0.sz
  have hzM : nM ≤ W.heap.size := h0.sz
  have hzb : W.heap.size ≠ bb := by have := h0.bm; omega
  have hrow0 : ∀ g, cv.ownBlock = some g → g < W.heap.size := fun g hg => (hb.own.lt g hg).2
  have hW1 : Below W.heap.size W ((W.alloc (.cells #[i64 g0, i64 g1] 99)).alloc (.cells #[i64 B.s0.fl, i64 B.s0.fh] 24)) := ((Below.refl _ W).alloc (Nat.le_refl _) _).alloc (by simp) _
  have hB0 := hb.below hW1
  have hO0 := h0.same (Step.sameBut (Step.of_below (bb := bb) (cv := cv) hW1) h0.sz hb.row)
  have hf0 : ((W.alloc (.cells #[i64 g0, i64 g1] 99)).alloc (.cells #[i64 B.s0.fl, i64 B.s0.fh] 24)).heap[W.heap.size]? = some (.cells #[i64 g0, i64 g1] 99 (0, 0)) := (Below.heap_alloc _ _ _ (by simp)).trans (heap_alloc_new W _)
  have hg0 : ((W.alloc (.cells #[i64 g0, i64 g1] 99)).alloc (.cells #[i64 B.s0.fl, i64 B.s0.fh] 24)).heap[W.heap.size + 1]? = some (.cells #[i64 B.s0.fl, i64 B.s0.fh] 24 (0, 0)) := heap_alloc2_new W _ _
  have hS0 : Step bb cv cv W ((W.alloc (.cells #[i64 g0, i64 g1] 99)).alloc (.cells #[i64 B.s0.fl, i64 B.s0.fh] 24)) := Step.of_below hW1
  go_enter Tryd.func95, Tryd.ntmps95
  go_wp2_with fail
  go_loopw [23] (fun i wr => ∃ k : Nat, k ≤ (B.s0.fh - B.s0.fl + 1).toNat ∧ i = .int .i64 k ∧ ∃ cv1 gk, BB nM bb B ta tc sa sc m (l ++ preC0 B D k) cv1 wr ∧ Op0 nA nM xb fb bb B tb tq ta tc sa sc m D wr ∧
      wr.heap[W.heap.size]? = some (.cells #[i64 gk, i64 g1] 99 (0, 0)) ∧ wr.heap[W.heap.size + 1]? = some (.cells #[i64 B.s0.fl, i64 B.s0.fh] 24 (0, 0)) ∧ Step bb cv cv1 W wr ∧ (∀ g, cv1.ownBlock = some g → g < W.heap.size ∨ W.heap.size + 2 ≤ g))
      (fun i _ => (B.s0.fh - B.s0.fl + 1).toNat - (intOf i).toNat)
  case atStart => exact ⟨0, Nat.zero_le _, rfl, cv, g0, by simpa [preC0] using hB0, hO0, hf0, hg0, hS0, fun g hg => .inl (hrow0 g hg)⟩
  case round =>
    clear hx hB0 hO0 hf0 hg0 hS0 hW1
    obtain ⟨k, hk, rfl, cv1, gk, hB1, hO1, hf1, hg1, hS1, hr1⟩ := hrel
    have hfc := cells_of hf1
    have hff := frozen_of hf1
    have hgc := cells_of hg1
    have hzl := (Array.getElem?_eq_some_iff.1 hf1).1
    have hzl1 := (Array.getElem?_eq_some_iff.1 hg1).1
    have hfnl : fb < wr.heap.size := Nat.lt_of_lt_of_le hO1.fm.1 hO1.sz
    have hfnc := cells_of hO1.f
    have hfz : fb ≠ W.heap.size := by have := hO1.fm.1; omega
    have hzr : cv1.ownBlock ≠ some W.heap.size := fun e => by rcases hr1 _ e with h | h <;> omega
    have hzr1 : cv1.ownBlock ≠ some (W.heap.size + 1) := fun e => by rcases hr1 _ e with h | h <;> omega
    have hzb1 : W.heap.size + 1 ≠ bb := by have := hO1.bm; omega
    have hz01 : W.heap.size ≠ W.heap.size + 1 := by omega
    by_cases hlt : k < (B.s0.fh - B.s0.fl + 1).toNat
    · have hlt' : (k : Int) < B.s0.fh - B.s0.fl + 1 := by omega
      have hlen : (l ++ preC0 B D k).length ≤ l.length + 5 * k := by
        have := preC0_len B D k hs1
        simp; omega
      have hk4 : k ≤ 4 := by omega
      have heq := Lib.hid (preC0_succ B D k)
      have hq0 := set_two0 hf1 (i64 (B.s0.fl + (k : Int)))
      have hqc := cells_of hq0
      have hqn := cells_of ((Below.heap_setCell wr ⟨W.heap.size, 0, none⟩ (i64 (B.s0.fl + (k : Int))) fb hfz).trans hO1.f)
      have hq1 := (Below.heap_setCell wr ⟨W.heap.size, 0, none⟩ (i64 (B.s0.fl + (k : Int))) (W.heap.size + 1) (Ne.symm hz01)).trans hg1
      have hSq := hS1.set (Nat.le_refl _) 0 (i64 (B.s0.fl + (k : Int)))
      go_wp2_with (go_at_call 95; refine (from1 nA nM xb fb bb B tb tq ta tc sa sc m D (B.s0.fl + (k : Int)) g1 (l ++ preC0 B D k) cv1 _ (hO1.set hzM _ _) (hB1.set hzr hzb _ _) hh (by omega) hs1 (by omega) (by omega)).mono ?_; rintro e w' ⟨rfl, cv2, hB2, hS2⟩; have hf2 := (hS2.keep _ (by simpa [World.setCell] using hzl) hzb hzr).trans hq0; have hg2 := (hS2.keep _ (by simpa [World.setCell] using hzl1) hzb1 hzr1).trans hq1; have hO2 := (hO1.set hzM 0 (i64 (B.s0.fl + (k : Int)))).same (hS2.sameBut (by simp [World.setCell]; have := hO1.sz; omega) hB1.row); have hS3 := hSq.trans hS2; have hsz2 := hS2.size)
      go_roundw
      case rel =>
        refine ⟨k + 1, by omega, by go_num, cv2, _, ?_, by assumption, by assumption, by assumption, by assumption, ?_⟩
        · rw [heq.out, ← List.append_assoc]; assumption
        · intro g hg
          rcases hS2.row g hg with h | h
          · exact hr1 g h
          · refine .inr ?_
            simp [World.setCell] at h
            omega
      case measure => simp [intOf]; omega
    · have hke : k = (B.s0.fh - B.s0.fl + 1).toNat := by omega
      have hfin : Hid (l ++ ext0 B D = l ++ preC0 B D k) := by
        show _ = _
        rw [hke]; rfl
      have hlt' : ¬ (k : Int) < B.s0.fh - B.s0.fl + 1 := by omega
      clear hke
      go_wp2_with fail
      refine bodyPost_ret (results_none rfl _ _ _) rfl ⟨rfl, cv1, ?_, hS1⟩
      rw [hfin.out]
      exact hB1
end Go.Proofs.YtkbmpkdflgimmaaDoor
