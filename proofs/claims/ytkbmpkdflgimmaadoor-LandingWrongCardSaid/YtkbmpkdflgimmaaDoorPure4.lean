/- Plain laws: the first hour, the hours at both shores. -/
import Derived.Test.YtkbmpkdflgimmaaDoorHelp3
import Derived.Test.YtkbmpkdflgimmaaDoorLMost
namespace Go.Proofs.YtkbmpkdflgimmaaDoor
open Go.RowKit Go.Shelf

theorem climbs_v {W : World} {v : Value} {l : List Int} {m : Nat} (h : ListV W v l) (hr : Rising m l) (hm : m ≤ 1000) : Calls Tryd.prog 36 #[v, i64 m] W (MoorPost W) := by
  obtain ⟨b, o, a, c, rfl, _, hI⟩ := h
  exact climbs_any W.heap.size b o a c m l W (Nat.le_refl _) hI hr hm
theorem kind_lt {B : Book} (hV : Vld B) (hc : ∃ f, CC B [] f) {s hr ld : Int} (h0 : 0 ≤ hr) (h1 : hr < B.tides.length) (h : sureB B s hr ld = false) : kindB B s hr ld < 2 := by
  rcases Int.lt_or_le (kindB B s hr ld) 2 with h9 | h9
  · exact h9
  · have hk := kind_range B s hr ld
    have := (kind_two (s := s) (ld := ld) hV hc h0 h1).1 (by omega)
    rw [h] at this
    cases this
/-- THE LAW OF THE FIRST HOUR. -/
theorem first_law {B : Book} {s hr ld : Int} (hv : B.valid = true) (q : Qs B s hr ld) :
    (firstR B s ld = (0, 22) ∧ bothR B ld = ([], 22)) ∨
    ∃ L k0 k1, bothR B ld = (L, 0) ∧ Rising B.tides.length L ∧ landsR B 0 hr ld = (k0, 0) ∧ landsR B 1 hr ld = (k1, 0) ∧ (0 ≤ idxI L hr ↔ k0 = 2 ∧ k1 = 2) ∧ (k0 ≤ 2 ∧ k1 ≤ 2) ∧
      ((firstR B s ld = (0, 4) ∧ (s = 0 → k0 < 2) ∧ (s = 1 → k1 < 2) ∧ L = []) ∨
       ∃ m, firstR B s ld = (m, 0) ∧ landsR B s m ld = (2, 0) ∧ (s = 0 → k0 < 2 ∨ m ≤ hr) ∧ (s = 1 → k1 < 2 ∨ m ≤ hr) ∧ ∀ x ∈ L, m ≤ x) := by
  have hV := valid_iff.1 hv
  rcases ask_cases hv with ⟨_, he⟩ | ⟨hc, he⟩
  · exact .inl ⟨firstR_err he (by decide) q, bothR_err he (by decide) q⟩
  · right
    have q0 := q.shore (s' := 0) (by decide) (by decide)
    have q1 := q.shore (s' := 1) (by decide) (by decide)
    have t0 := kind_two hV hc (s := 0) (ld := ld) q.h0 q.h1
    have t1 := kind_two hV hc (s := 1) (ld := ld) q.h0 q.h1
    have r0 := kind_range B 0 hr ld
    have r1 := kind_range B 1 hr ld
    have hss : s = 0 ∨ s = 1 := by have := q.s0; have := q.s1; omega
    refine ⟨_, _, _, bothR_ok he q, bothL_rising B ld _, landsR_ok he q0, landsR_ok he q1, ?_, ⟨r0.2, r1.2⟩, ?_⟩
    · rw [idxI_mem, mem_bothL, t0, t1]
      exact ⟨fun h => h.2, fun h => ⟨⟨q.h0, q.h1⟩, h⟩⟩
    · rcases firstR_ok he q with ⟨h3, h4⟩ | ⟨m, h3, h5, h6, h7, h8⟩
      · left
        refine ⟨h3, fun e => ?_, fun e => ?_, ?_⟩
        · subst e; exact kind_lt hV hc q.h0 q.h1 (h4 hr q.h0 q.h1)
        · subst e; exact kind_lt hV hc q.h0 q.h1 (h4 hr q.h0 q.h1)
        · rw [List.eq_nil_iff_forall_not_mem]
          intro x hx
          obtain ⟨⟨a, b⟩, c, d⟩ := mem_bothL.1 hx
          have := h4 x a b
          rcases hss with e | e
          · rw [e, c] at this; cases this
          · rw [e, d] at this; cases this
      · right
        refine ⟨m, h3, ?_, fun e => ?_, fun e => ?_, fun x hx => ?_⟩
        · rw [landsR_ok he (q.hour h5 h6), (kind_two hV hc h5 h6).2 h7]
        · subst e
          rcases Int.lt_or_le hr m with h | h
          · exact .inl (kind_lt hV hc q.h0 q.h1 (h8 hr q.h0 h))
          · exact .inr h
        · subst e
          rcases Int.lt_or_le hr m with h | h
          · exact .inl (kind_lt hV hc q.h0 q.h1 (h8 hr q.h0 h))
          · exact .inr h
        · obtain ⟨⟨a, b⟩, c, d⟩ := mem_bothL.1 hx
          rcases Int.lt_or_le x m with h | h
          · have := h8 x a h
            rcases hss with e | e
            · rw [e, c] at this; cases this
            · rw [e, d] at this; cases this
          · exact h
end Go.Proofs.YtkbmpkdflgimmaaDoor
