/- Plain laws: heights and bottoms that are told; one sounding more. -/
import Derived.Test.YtkbmpkdflgimmaaDoorWith
namespace Go.Proofs.YtkbmpkdflgimmaaDoor

theorem foldl_min (l : List Int) (x : Int) : (l.foldl min x = x ∨ l.foldl min x ∈ l) ∧ l.foldl min x ≤ x ∧ ∀ y ∈ l, l.foldl min x ≤ y := by
  induction l generalizing x with
  | nil => simp
  | cons a l ih =>
    obtain ⟨h1, h2, h3⟩ := ih (min x a)
    simp only [List.foldl_cons, List.mem_cons]
    refine ⟨?_, by omega, ?_⟩
    · rcases h1 with h | h
      · rcases (by omega : min x a = x ∨ min x a = a) with e | e
        · left; rw [h, e]
        · right; left; rw [h, e]
      · right; right; exact h
    · rintro y (rfl | hy)
      · omega
      · exact h3 y hy
theorem foldl_max (l : List Int) (x : Int) : (l.foldl max x = x ∨ l.foldl max x ∈ l) ∧ x ≤ l.foldl max x ∧ ∀ y ∈ l, y ≤ l.foldl max x := by
  induction l generalizing x with
  | nil => simp
  | cons a l ih =>
    obtain ⟨h1, h2, h3⟩ := ih (max x a)
    simp only [List.foldl_cons, List.mem_cons]
    refine ⟨?_, by omega, ?_⟩
    · rcases h1 with h | h
      · rcases (by omega : max x a = x ∨ max x a = a) with e | e
        · left; rw [h, e]
        · right; left; rw [h, e]
      · right; right; exact h
    · rintro y (rfl | hy)
      · omega
      · exact h3 y hy
theorem min_max {l : List Int} (h : l ≠ []) : (minL l ∈ l ∧ maxL (l.head?.getD 0) l ∈ l) ∧ ∀ y ∈ l, minL l ≤ y ∧ y ≤ maxL (l.head?.getD 0) l := by
  cases l with
  | nil => exact absurd rfl h
  | cons a l =>
    have h1 := foldl_min l a
    have h2 := foldl_max (a :: l) a
    unfold minL maxL
    simp only [List.tail_cons, List.headD_cons, List.head?_cons, Option.getD_some, List.mem_cons] at h2 ⊢
    refine ⟨⟨h1.1, ?_⟩, ?_⟩
    · rcases h2.1 with h | h
      · left; exact h
      · exact h
    · rintro y (rfl | hy)
      · exact ⟨h1.2.1, h2.2.1⟩
      · exact ⟨h1.2.2 y hy, h2.2.2 y (.inr hy)⟩
theorem mem_heightL {B : Book} {hr x : Int} : x ∈ heightL B hr ↔ ∃ f, CC B [] f ∧ HH B [] hr f x := by
  unfold heightL
  rw [List.mem_flatMap]
  constructor
  · rintro ⟨f, hf, hx⟩; exact ⟨f, mem_cansB.1 hf, mem_hts.1 hx⟩
  · rintro ⟨f, hf, hx⟩; exact ⟨f, mem_cansB.2 hf, mem_hts.2 hx⟩
theorem mem_floorL {B : Book} {s x : Int} : x ∈ (cansB B).map (fAt s) ↔ ∃ f, CC B [] f ∧ fAt s f = x := by
  rw [List.mem_map]
  constructor
  · rintro ⟨f, hf, hx⟩; exact ⟨f, mem_cansB.1 hf, hx⟩
  · rintro ⟨f, hf, hx⟩; exact ⟨f, mem_cansB.2 hf, hx⟩
theorem heightR_ok {B : Book} {s hr ld : Int} (he : askE B true = 0) (hc : ∃ f, CC B [] f) (q : Qs B s hr ld) :
    ∃ a b, heightR B hr = (a, b, 0) ∧ (∃ f, CC B [] f ∧ HH B [] hr f a) ∧ (∃ f, CC B [] f ∧ HH B [] hr f b) ∧ ∀ x f, CC B [] f → HH B [] hr f x → a ≤ x ∧ x ≤ b := by
  obtain ⟨f, hf⟩ := hc
  obtain ⟨x, hx⟩ := hf.height q.h0 q.h1
  have hne : heightL B hr ≠ [] := List.ne_nil_of_mem (mem_heightL.2 ⟨f, hf, hx⟩)
  have hmm := min_max hne
  refine ⟨_, _, ?_, mem_heightL.1 hmm.1.1, mem_heightL.1 hmm.1.2, fun x f h1 h2 => hmm.2 x (mem_heightL.2 ⟨f, h1, h2⟩)⟩
  unfold heightR
  rw [q.ho, if_pos he]
theorem heightR_err {B : Book} {s hr ld e : Int} (he : askE B true = e) (h0 : e ≠ 0) (q : Qs B s hr ld) : heightR B hr = (0, 0, e) := by
  unfold heightR
  rw [q.ho, he, if_neg h0]
theorem floorR_ok {B : Book} {s hr ld : Int} (he : askE B true = 0) (hc : ∃ f, CC B [] f) (q : Qs B s hr ld) :
    ∃ a b, floorR B s = (a, b, 0) ∧ (∃ f, CC B [] f ∧ fAt s f = a) ∧ (∃ f, CC B [] f ∧ fAt s f = b) ∧ ∀ f, CC B [] f → a ≤ fAt s f ∧ fAt s f ≤ b := by
  obtain ⟨f, hf⟩ := hc
  have hne : (cansB B).map (fAt s) ≠ [] := List.ne_nil_of_mem (mem_floorL.2 ⟨f, hf, rfl⟩)
  have hmm := min_max hne
  refine ⟨_, _, ?_, mem_floorL.1 hmm.1.1, mem_floorL.1 hmm.1.2, fun f h1 => hmm.2 _ (mem_floorL.2 ⟨f, h1, rfl⟩)⟩
  unfold floorR
  rw [q.sh, if_pos he]
theorem floorR_err {B : Book} {s hr ld e : Int} (he : askE B true = e) (h0 : e ≠ 0) (q : Qs B s hr ld) : floorR B s = (0, 0, e) := by
  unfold floorR
  rw [q.sh, he, if_neg h0]
section
variable {B : Book} {d : Sound}
theorem FitH.more {l : List Sound} {but : List Int} {hr h f0 f1 : Int} (hf : FitH (l ++ [d]) but hr h f0 f1) : FitH l but hr h f0 f1 := fun i y hy =>
  hf i y (by rw [List.getElem?_append_left (List.getElem?_eq_some_iff.1 hy).1]; exact hy)
theorem HH.more {but : List Int} {hr : Int} {f : Int × Int} {x : Int} (h : HH (addS B d) but hr f x) : HH B but hr f x := ⟨h.1, h.2.more⟩
theorem CC.more {but : List Int} {f : Int × Int} (h : CC (addS B d) but f) : CC B but f := ⟨h.1, h.2.1, fun hr hlt => (h.2.2 hr hlt).imp fun _ hx => hx.more⟩
/-- THE LAW OF ONE SOUNDING MORE. -/
theorem more_law {s hr ld : Int} (hv : B.valid = true) (q : Qs B s hr ld) :
    (checkE (addS B d) = 20 ∧ heightR (addS B d) hr = (0, 0, 20)) ∨ (checkE (addS B d) = 0 ∧ heightR (addS B d) hr = (0, 0, 22)) ∨
    ∃ a b a2 b2 u v u2 v2 k k2 m e m2 e2, heightR B hr = (a, b, 0) ∧ heightR (addS B d) hr = (a2, b2, 0) ∧ coversB a b a2 b2 = true ∧ floorR B s = (u, v, 0) ∧ floorR (addS B d) s = (u2, v2, 0) ∧ coversB u v u2 v2 = true ∧
      landsR B s hr ld = (k, 0) ∧ landsR (addS B d) s hr ld = (k2, 0) ∧ (k = 1 ∨ k2 = k) ∧ mostR B s hr = (m, e) ∧ mostR (addS B d) s hr = (m2, e2) ∧ (e = 4 ∨ (e = 0 ∧ e2 = 0 ∧ m ≤ m2)) := by
  have hV := valid_iff.1 hv
  cases hxv : (addS B d).valid
  · left
    have he : askE (addS B d) true = 20 := ask_bad hxv _
    have qx : Qs (addS B d) s hr ld := ⟨q.s0, q.s1, q.h0, q.h1, q.l0, q.l1⟩
    exact ⟨by simp [checkE, hxv], heightR_err he (by decide) qx⟩
  · right
    have hXV := valid_iff.1 hxv
    have qx : Qs (addS B d) s hr ld := ⟨q.s0, q.s1, q.h0, q.h1, q.l0, q.l1⟩
    rcases ask_cases hxv with ⟨_, he⟩ | ⟨hcx, hex⟩
    · left
      exact ⟨by simp [checkE, hxv], heightR_err he (by decide) qx⟩
    · right
      rcases ask_cases hv with ⟨hc, _⟩ | ⟨hc, he⟩
      · exact absurd (hcx.imp fun f hf => hf.more) hc
      · obtain ⟨a, b, h1, _, _, h4⟩ := heightR_ok he hc q
        obtain ⟨a2, b2, g1, ⟨f1, c1, d1⟩, ⟨f2, c2, d2⟩, _⟩ := heightR_ok hex hcx qx
        obtain ⟨u, v, i1, _, _, i4⟩ := floorR_ok he hc q
        obtain ⟨u2, v2, j1, ⟨f3, c3, d3⟩, ⟨f4, c4, d4⟩, _⟩ := floorR_ok hex hcx qx
        have sure : ∀ ld, sureB B s hr ld = true → sureB (addS B d) s hr ld = true := fun ld hs => sureB_iff.2 fun f hf x hx => sureB_iff.1 hs f hf.more x hx.more
        have never : maybeB B s hr ld = false → maybeB (addS B d) s hr ld = false := fun hs => by
          cases hm : maybeB (addS B d) s hr ld
          · rfl
          · obtain ⟨f, hf, x, hx, hl⟩ := maybeB_iff.1 hm
            rw [maybeB_iff.2 ⟨f, hf.more, x, hx.more, hl⟩] at hs
            cases hs
        refine ⟨a, b, a2, b2, u, v, u2, v2, _, _, (mostR B s hr).1, (mostR B s hr).2, (mostR (addS B d) s hr).1, (mostR (addS B d) s hr).2, h1, g1, ?_, i1, j1, ?_, landsR_ok he q, landsR_ok hex qx, ?_, rfl, rfl, ?_⟩
        · have e1 := h4 a2 f1 c1.more d1.more
          have e2 := h4 b2 f2 c2.more d2.more
          simp [coversB]
          omega
        · have e1 := i4 f3 c3.more
          have e2 := i4 f4 c4.more
          simp [coversB]
          omega
        · have r := kind_range B s hr ld
          rcases (by omega : kindB B s hr ld = 0 ∨ kindB B s hr ld = 1 ∨ kindB B s hr ld = 2) with h | h | h
          · right
            rw [h]
            exact (kind_zero hXV hcx q.h0 q.h1).2 (never ((kind_zero hV hc q.h0 q.h1).1 h))
          · exact .inl h
          · right
            rw [h]
            exact (kind_two hXV hcx q.h0 q.h1).2 (sure ld ((kind_two hV hc q.h0 q.h1).1 h))
        · rcases mostR_ok he q with ⟨h3, _⟩ | ⟨m, h3, h5, h6, h7, h8⟩
          · left; rw [h3]
          · right
            rw [h3]
            rcases mostR_ok hex qx with ⟨g3, g4⟩ | ⟨m', g3, g5, g6, g7, g8⟩
            · have := sure m h7
              rw [g4 m h5 h6] at this
              cases this
            · rw [g3]
              refine ⟨rfl, rfl, ?_⟩
              rcases Int.lt_or_le m' m with hlt | hle
              · have := sure m h7
                rw [g8 m hlt h6] at this
                cases this
              · exact hle
end
end Go.Proofs.YtkbmpkdflgimmaaDoor
