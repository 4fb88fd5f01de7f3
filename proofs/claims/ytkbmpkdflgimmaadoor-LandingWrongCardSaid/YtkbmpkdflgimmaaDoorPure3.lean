/- Plain laws: what the exported functions answer of a valid book and a good question. -/
import Derived.Test.YtkbmpkdflgimmaaDoorSound
namespace Go.Proofs.YtkbmpkdflgimmaaDoor

theorem ask_cases {B : Book} (h : B.valid = true) : ((¬ ∃ f, CC B [] f) ∧ askE B true = 22) ∨ ((∃ f, CC B [] f) ∧ askE B true = 0) := by
  unfold askE
  rw [if_pos h, if_pos rfl]
  cases he : (ext0 B (dep B.sounds [])).isEmpty
  · right
    exact ⟨cans_ne.1 he, by simp⟩
  · left
    refine ⟨fun hc => ?_, by simp⟩
    have := cans_ne.2 hc
    rw [cansB, he] at this
    cases this
theorem ask_bad {B : Book} (h : B.valid = false) (is : Bool) : askE B is = 20 := by simp [askE, h]
theorem ask_not {B : Book} (h : B.valid = true) : askE B false = 21 := by simp [askE, h]
/-- A good question. -/
structure Qs (B : Book) (s hr ld : Int) : Prop where
  s0 : 0 ≤ s
  s1 : s ≤ 1
  h0 : 0 ≤ hr
  h1 : hr < B.tides.length
  l0 : 0 ≤ ld
  l1 : ld ≤ 200
theorem Qs.sh {B : Book} {s hr ld : Int} (q : Qs B s hr ld) : inB s 0 1 = true := inB_true q.s0 q.s1
theorem Qs.ho {B : Book} {s hr ld : Int} (q : Qs B s hr ld) : hourB B hr = true := inB_true q.h0 (by have := q.h1; omega)
theorem Qs.lo {B : Book} {s hr ld : Int} (q : Qs B s hr ld) : inB ld 0 200 = true := inB_true q.l0 q.l1
theorem Qs.load {B : Book} {s hr ld ld' : Int} (q : Qs B s hr ld) (h0 : 0 ≤ ld') (h1 : ld' ≤ 200) : Qs B s hr ld' := ⟨q.s0, q.s1, q.h0, q.h1, h0, h1⟩
theorem Qs.hour {B : Book} {s hr ld hr' : Int} (q : Qs B s hr ld) (h0 : 0 ≤ hr') (h1 : hr' < B.tides.length) : Qs B s hr' ld := ⟨q.s0, q.s1, h0, h1, q.l0, q.l1⟩
theorem Qs.shore {B : Book} {s hr ld s' : Int} (q : Qs B s hr ld) (h0 : 0 ≤ s') (h1 : s' ≤ 1) : Qs B s' hr ld := ⟨h0, h1, q.h0, q.h1, q.l0, q.l1⟩
/-- 2, 1 or 0. -/
def kindB (B : Book) (s hr ld : Int) : Int := (if maybeB B s hr ld then 1 else 0) + (if sureB B s hr ld then 1 else 0)
theorem kind_range (B : Book) (s hr ld : Int) : 0 ≤ kindB B s hr ld ∧ kindB B s hr ld ≤ 2 := by
  unfold kindB
  cases maybeB B s hr ld <;> cases sureB B s hr ld <;> simp
theorem landsB_empty {B : Book} {s ld h f e e' : Int} (he : e' ≤ e) (hl : landsB B s ld h f e = true) : landsB B s ld h f e' = true := by
  simp only [landsB, Bool.and_eq_true, decide_eq_true_eq] at hl ⊢
  exact ⟨by omega, hl.2⟩
theorem CC.height {B : Book} {but : List Int} {f : Int × Int} (h : CC B but f) {hr : Int} (h0 : 0 ≤ hr) (h1 : hr < B.tides.length) : ∃ x, HH B but hr f x := by
  have := h.2.2 hr.toNat (by omega)
  rwa [Int.toNat_of_nonneg h0] at this
theorem sure_maybe {B : Book} (hV : Vld B) (hc : ∃ f, CC B [] f) {s hr ld : Int} (h0 : 0 ≤ hr) (h1 : hr < B.tides.length) (h : sureB B s hr ld = true) : maybeB B s hr ld = true := by
  obtain ⟨f, hf⟩ := hc
  obtain ⟨x, hx⟩ := hf.height h0 h1
  exact maybeB_iff.2 ⟨f, hf, x, hx, landsB_empty hV.ee (sureB_iff.1 h f hf x hx)⟩
theorem kind_two {B : Book} (hV : Vld B) (hc : ∃ f, CC B [] f) {s hr ld : Int} (h0 : 0 ≤ hr) (h1 : hr < B.tides.length) : kindB B s hr ld = 2 ↔ sureB B s hr ld = true := by
  unfold kindB
  constructor
  · intro h
    cases hs : sureB B s hr ld
    · rw [hs] at h
      cases hm : maybeB B s hr ld <;> simp [hm] at h
    · rfl
  · intro h
    rw [h, sure_maybe hV hc h0 h1 h]
    rfl
theorem kind_zero {B : Book} (hV : Vld B) (hc : ∃ f, CC B [] f) {s hr ld : Int} (h0 : 0 ≤ hr) (h1 : hr < B.tides.length) : kindB B s hr ld = 0 ↔ maybeB B s hr ld = false := by
  unfold kindB
  constructor
  · intro h
    cases hm : maybeB B s hr ld
    · rfl
    · rw [hm] at h
      cases hs : sureB B s hr ld <;> simp [hs] at h
  · intro h
    have hs : sureB B s hr ld = false := by
      cases hs : sureB B s hr ld
      · rfl
      · rw [sure_maybe hV hc h0 h1 hs] at h
        cases h
    rw [h, hs]
    rfl
theorem landsB_load {B : Book} (hk : 1 ≤ B.sink) {s ld ld' h f e : Int} (he : ld' ≤ ld) (hl : landsB B s ld h f e = true) : landsB B s ld' h f e = true := by
  simp only [landsB, Bool.and_eq_true, decide_eq_true_eq] at hl ⊢
  have : (ld' + B.sink - 1) / B.sink ≤ (ld + B.sink - 1) / B.sink := Int.ediv_le_ediv (by omega) (by omega)
  exact ⟨by omega, hl.2⟩
theorem sure_load {B : Book} (hk : 1 ≤ B.sink) {s hr ld ld' : Int} (he : ld' ≤ ld) (h : sureB B s hr ld = true) : sureB B s hr ld' = true :=
  sureB_iff.2 fun f hf x hx => landsB_load hk he (sureB_iff.1 h f hf x hx)
section
variable {B : Book} {s hr ld : Int}
theorem landsR_err {e : Int} (he : askE B true = e) (h : e ≠ 0) (q : Qs B s hr ld) : landsR B s hr ld = (0, e) := by
  have : askL B s hr ld = true := by simp [askL, q.sh, q.ho, q.lo]
  unfold landsR
  rw [this, he, if_neg h]
theorem landsR_ok (he : askE B true = 0) (q : Qs B s hr ld) : landsR B s hr ld = (kindB B s hr ld, 0) := by
  have : askL B s hr ld = true := by simp [askL, q.sh, q.ho, q.lo]
  unfold landsR
  rw [this, if_pos he]
  rfl
theorem mostR_err {e : Int} (he : askE B true = e) (h : e ≠ 0) (q : Qs B s hr ld) : mostR B s hr = (0, e) := by
  have : askM B s hr = true := by simp [askM, q.sh, q.ho]
  unfold mostR
  rw [this, he, if_neg h]
theorem mostR_ok (he : askE B true = 0) (q : Qs B s hr ld) :
    (mostR B s hr = (0, 4) ∧ ∀ x, 0 ≤ x → x ≤ 200 → sureB B s hr x = false) ∨ (∃ m, mostR B s hr = (m, 0) ∧ 0 ≤ m ∧ m ≤ 200 ∧ sureB B s hr m = true ∧ ∀ x, m < x → x ≤ 200 → sureB B s hr x = false) := by
  have hq : askM B s hr = true := by simp [askM, q.sh, q.ho]
  unfold mostR
  rw [hq, if_pos he]
  cases hf : (List.range 201).find? fun (n : Nat) => sureB B s hr (200 - (n : Int)) with
  | none =>
    left
    refine ⟨rfl, fun x h0 h1 => ?_⟩
    have := List.find?_eq_none.1 hf (200 - x).toNat (List.mem_range.2 (by omega))
    rw [show (200 : Int) - ((200 - x).toNat : Int) = x by omega] at this
    simpa using this
  | some n =>
    right
    obtain ⟨h1, h2, h3⟩ := List.find?_range_eq_some.1 hf
    have h2 := List.mem_range.1 h2
    refine ⟨200 - (n : Int), rfl, by omega, by omega, h1, fun x h4 h5 => ?_⟩
    have := h3 (200 - x).toNat (by omega)
    rw [show (200 : Int) - ((200 - x).toNat : Int) = x by omega] at this
    simpa using this
theorem firstR_err {e : Int} (he : askE B true = e) (h : e ≠ 0) (q : Qs B s hr ld) : firstR B s ld = (0, e) := by
  have : askF s ld = true := by simp [askF, q.sh, q.lo]
  unfold firstR
  rw [this, he, if_neg h]
theorem firstR_ok (he : askE B true = 0) (q : Qs B s hr ld) :
    (firstR B s ld = (0, 4) ∧ ∀ x : Int, 0 ≤ x → x < B.tides.length → sureB B s x ld = false) ∨ (∃ m, firstR B s ld = (m, 0) ∧ 0 ≤ m ∧ m < B.tides.length ∧ sureB B s m ld = true ∧ ∀ x : Int, 0 ≤ x → x < m → sureB B s x ld = false) := by
  have hq : askF s ld = true := by simp [askF, q.sh, q.lo]
  unfold firstR
  rw [hq, if_pos he]
  cases hf : (List.range B.tides.length).find? fun (h : Nat) => sureB B s h ld with
  | none =>
    left
    refine ⟨rfl, fun x h0 h1 => ?_⟩
    have := List.find?_eq_none.1 hf x.toNat (List.mem_range.2 (by omega))
    rw [Int.toNat_of_nonneg h0] at this
    simpa using this
  | some n =>
    right
    obtain ⟨h1, h2, h3⟩ := List.find?_range_eq_some.1 hf
    have h2 := List.mem_range.1 h2
    refine ⟨(n : Int), rfl, by omega, by omega, h1, fun x h4 h5 => ?_⟩
    have := h3 x.toNat (by omega)
    rw [Int.toNat_of_nonneg h4] at this
    simpa using this
theorem bothR_err {e : Int} (he : askE B true = e) (h : e ≠ 0) (q : Qs B s hr ld) : bothR B ld = ([], e) := by
  unfold bothR
  rw [q.lo, he, if_neg h]
theorem bothR_ok (he : askE B true = 0) (q : Qs B s hr ld) : bothR B ld = (bothL B ld B.tides.length, 0) := by
  unfold bothR
  rw [q.lo, if_pos he]
end
theorem mem_bothL {B : Book} {ld : Int} {k : Nat} {x : Int} : x ∈ bothL B ld k ↔ (0 ≤ x ∧ x < k) ∧ sureB B 0 x ld = true ∧ sureB B 1 x ld = true := by
  unfold bothL
  simp only [List.mem_map, List.mem_filter, List.mem_range, Bool.and_eq_true]
  constructor
  · rintro ⟨n, ⟨h1, h2, h3⟩, rfl⟩
    exact ⟨⟨by omega, by omega⟩, h2, h3⟩
  · rintro ⟨⟨h1, h2⟩, h3, h4⟩
    refine ⟨x.toNat, ⟨by omega, ?_, ?_⟩, by omega⟩
    · rw [Int.toNat_of_nonneg h1]; exact h3
    · rw [Int.toNat_of_nonneg h1]; exact h4
theorem bothL_rising (B : Book) (ld : Int) (k : Nat) : Rising k (bothL B ld k) := by
  refine ⟨?_, fun x hx => (mem_bothL.1 hx).1⟩
  unfold bothL
  rw [List.pairwise_map]
  refine List.Pairwise.imp (R := (· < ·)) (fun h => by omega) ?_
  exact List.Pairwise.filter _ List.pairwise_lt_range
/-- THE LAW OF THE GREATEST LOAD. -/
theorem most_law {B : Book} {s hr ld : Int} (hv : B.valid = true) (q : Qs B s hr ld) :
    (landsR B s hr ld = (0, 22) ∧ mostR B s hr = (0, 22)) ∨ (∃ k, landsR B s hr ld = (k, 0) ∧ k < 2 ∧ mostR B s hr = (0, 4)) ∨
    (∃ m k, mostR B s hr = (m, 0) ∧ landsR B s hr ld = (k, 0) ∧ (0 ≤ m ∧ m ≤ 200) ∧ landsR B s hr m = (2, 0) ∧ ((k = 2 ∧ ld ≤ m) ∨ (k < 2 ∧ m < ld))) := by
  have hV := valid_iff.1 hv
  rcases ask_cases hv with ⟨_, he⟩ | ⟨hc, he⟩
  · exact .inl ⟨landsR_err he (by decide) q, mostR_err he (by decide) q⟩
  · have hk := kind_range B s hr ld
    have h2 := kind_two hV hc (s := s) (ld := ld) q.h0 q.h1
    rcases mostR_ok he q with ⟨h3, h4⟩ | ⟨m, h3, h5, h6, h7, h8⟩
    · refine .inr (.inl ⟨_, landsR_ok he q, ?_, h3⟩)
      rcases Int.lt_or_le (kindB B s hr ld) 2 with h | h
      · exact h
      · have := h2.1 (by omega)
        rw [h4 ld q.l0 q.l1] at this
        cases this
    · refine .inr (.inr ⟨m, _, h3, landsR_ok he q, ⟨h5, h6⟩, ?_, ?_⟩)
      · rw [landsR_ok he (q.load h5 h6), (kind_two hV hc q.h0 q.h1).2 h7]
      · rcases Int.lt_or_le m ld with h | h
        · right
          refine ⟨?_, h⟩
          rcases Int.lt_or_le (kindB B s hr ld) 2 with h9 | h9
          · exact h9
          · have := h2.1 (by omega)
            rw [h8 ld h q.l1] at this
            cases this
        · left
          exact ⟨h2.2 (sure_load hV.k1 h h7), h⟩
end Go.Proofs.YtkbmpkdflgimmaaDoor
