/- Plain laws: what is easier. -/
import Derived.Test.YtkbmpkdflgimmaaDoorPure4
namespace Go.Proofs.YtkbmpkdflgimmaaDoor

/-- The same water, bottom and soundings; whatever landed still does. -/
structure Eas (B X : Book) : Prop where
  tides : X.tides = B.tides
  sounds : X.sounds = B.sounds
  fl0 : X.s0.fl = B.s0.fl
  fh0 : X.s0.fh = B.s0.fh
  fl1 : X.s1.fl = B.s1.fl
  fh1 : X.s1.fh = B.s1.fh
  valid : X.valid = true
  low : ∀ s ld h f : Int, 0 ≤ ld → landsB B s ld h f B.el = true → landsB X s ld h f X.el = true
  high : ∀ s ld h f : Int, 0 ≤ ld → landsB B s ld h f B.eh = true → landsB X s ld h f X.eh = true
section
variable {B X : Book}
theorem Eas.hh (h : Eas B X) {but : List Int} {hr : Int} {f : Int × Int} {x : Int} : HH X but hr f x ↔ HH B but hr f x := by
  unfold HH tideAt
  rw [h.tides, h.sounds]
theorem Eas.cc (h : Eas B X) {but : List Int} {f : Int × Int} : CC X but f ↔ CC B but f := by
  unfold CC
  simp only [h.hh, h.fl0, h.fh0, h.fl1, h.fh1, h.tides]
theorem Eas.sure (h : Eas B X) {s hr ld : Int} (hl : 0 ≤ ld) (hs : sureB B s hr ld = true) : sureB X s hr ld = true :=
  sureB_iff.2 fun f hf x hx => h.high _ _ _ _ hl (sureB_iff.1 hs f (h.cc.1 hf) x (h.hh.1 hx))
theorem Eas.maybe (h : Eas B X) {s hr ld : Int} (hl : 0 ≤ ld) (hs : maybeB B s hr ld = true) : maybeB X s hr ld = true := by
  obtain ⟨f, hf, x, hx, hl2⟩ := maybeB_iff.1 hs
  exact maybeB_iff.2 ⟨f, h.cc.2 hf, x, h.hh.2 hx, h.low _ _ _ _ hl hl2⟩
theorem Eas.kind (h : Eas B X) {s hr ld : Int} (hl : 0 ≤ ld) : kindB B s hr ld ≤ kindB X s hr ld := by
  unfold kindB
  have h1 := h.sure (s := s) (hr := hr) hl
  have h2 := h.maybe (s := s) (hr := hr) hl
  cases a : sureB B s hr ld <;> cases b : maybeB B s hr ld <;> cases c : sureB X s hr ld <;> cases d : maybeB X s hr ld <;> simp_all
theorem Eas.qs (h : Eas B X) {s hr ld : Int} (q : Qs B s hr ld) : Qs X s hr ld := ⟨q.s0, q.s1, q.h0, by rw [h.tides]; exact q.h1, q.l0, q.l1⟩
theorem Eas.ask (h : Eas B X) (hv : B.valid = true) : askE X true = askE B true := by
  rcases ask_cases hv with ⟨h1, h2⟩ | ⟨h1, h2⟩ <;> rcases ask_cases h.valid with ⟨h3, h4⟩ | ⟨h3, h4⟩
  · rw [h2, h4]
  · exact absurd (h3.imp fun f hf => h.cc.1 hf) h1
  · exact absurd (h1.imp fun f hf => h.cc.2 hf) h3
  · rw [h2, h4]
/-- THE LAW OF WHAT IS EASIER. -/
theorem easier_law {s hr ld : Int} (h : Eas B X) (hv : B.valid = true) (q : Qs B s hr ld) :
    (landsR B s hr ld = (0, 22) ∧ landsR X s hr ld = (0, 22)) ∨
    ∃ k k' m e m' e' n i n' i' L M, landsR B s hr ld = (k, 0) ∧ landsR X s hr ld = (k', 0) ∧ k ≤ k' ∧ mostR B s hr = (m, e) ∧ mostR X s hr = (m', e') ∧ ((e = 0 ∧ e' = 0 ∧ m ≤ m') ∨ e = 4) ∧
      firstR B s ld = (n, i) ∧ firstR X s ld = (n', i') ∧ ((i = 0 ∧ i' = 0 ∧ n' ≤ n) ∨ i = 4) ∧ bothR B ld = (L, 0) ∧ bothR X ld = (M, 0) ∧ ∀ x ∈ L, 0 ≤ idxI M x := by
  have hV := valid_iff.1 hv
  have ha := h.ask hv
  have qx := h.qs q
  rcases ask_cases hv with ⟨_, he⟩ | ⟨hc, he⟩
  · exact .inl ⟨landsR_err he (by decide) q, landsR_err (ha.trans he) (by decide) qx⟩
  · right
    have hx := ha.trans he
    refine ⟨_, _, (mostR B s hr).1, (mostR B s hr).2, (mostR X s hr).1, (mostR X s hr).2, (firstR B s ld).1, (firstR B s ld).2, (firstR X s ld).1, (firstR X s ld).2, _, _, landsR_ok he q, landsR_ok hx qx, h.kind q.l0, rfl, rfl, ?_, rfl, rfl, ?_, bothR_ok he q, bothR_ok hx qx, ?_⟩
    · rcases mostR_ok he q with ⟨h3, h4⟩ | ⟨m, h3, h5, h6, h7, h8⟩
      · right; rw [h3]
      · left
        rw [h3]
        rcases mostR_ok hx qx with ⟨g3, g4⟩ | ⟨m', g3, g5, g6, g7, g8⟩
        · have := h.sure h5 h7
          rw [g4 m h5 h6] at this
          cases this
        · rw [g3]
          refine ⟨rfl, rfl, ?_⟩
          rcases Int.lt_or_le m' m with hlt | hle
          · have := h.sure h5 h7
            rw [g8 m hlt h6] at this
            cases this
          · exact hle
    · rcases firstR_ok he q with ⟨h3, h4⟩ | ⟨m, h3, h5, h6, h7, h8⟩
      · right; rw [h3]
      · left
        rw [h3]
        rcases firstR_ok hx qx with ⟨g3, g4⟩ | ⟨m', g3, g5, g6, g7, g8⟩
        · have := h.sure q.l0 h7
          rw [g4 m h5 (by rw [h.tides]; exact h6)] at this
          cases this
        · rw [g3]
          refine ⟨rfl, rfl, ?_⟩
          rcases Int.lt_or_le m m' with hlt | hle
          · have := h.sure q.l0 h7
            rw [g8 m h5 hlt] at this
            cases this
          · exact hle
    · intro x hx2
      obtain ⟨⟨a, b⟩, c, d⟩ := mem_bothL.1 hx2
      rw [idxI_mem, mem_bothL, h.tides]
      exact ⟨⟨a, b⟩, h.sure q.l0 c, h.sure q.l0 d⟩
end
theorem div_mono {a k k' : Int} (ha : 0 ≤ a) (hk : 1 ≤ k) (hkk : k ≤ k') : (a + k' - 1) / k' ≤ (a + k - 1) / k := by
  -- both are the least n with k * n ≥ a
  have h1 := Int.mul_ediv_add_emod (a + k - 1) k
  have h2 := Int.emod_lt_of_pos (a + k - 1) (show 0 < k by omega)
  have h3 : 0 ≤ (a + k - 1) / k := Int.ediv_nonneg (by omega) (by omega)
  have h4 : a ≤ k * ((a + k - 1) / k) := by omega
  have h5 : k * ((a + k - 1) / k) ≤ k' * ((a + k - 1) / k) := Int.mul_le_mul_of_nonneg_right hkk h3
  have h6 : (a + k' - 1) / k' < (a + k - 1) / k + 1 := by
    rw [Int.ediv_lt_iff_lt_mul (by omega)]
    rw [Int.add_mul, Int.one_mul, Int.mul_comm]
    omega
  omega
theorem landsB_mono {B X : Book} {s ld h f e e' : Int} (hl : 0 ≤ ld) (hk : 1 ≤ B.sink) (hkk : B.sink ≤ X.sink) (hu : X.under ≤ B.under) (he : e' ≤ e) (h0 : X.s0.lo ≤ B.s0.lo) (h1 : B.s0.hi ≤ X.s0.hi) (h2 : X.s1.lo ≤ B.s1.lo) (h3 : B.s1.hi ≤ X.s1.hi)
    (hb : landsB B s ld h f e = true) : landsB X s ld h f e' = true := by
  have hd := div_mono hl hk hkk
  simp only [landsB, Bool.and_eq_true, decide_eq_true_eq, inB] at hb ⊢
  obtain ⟨a, b, c⟩ := hb
  by_cases hs : s = 0
  · rw [if_pos hs] at b c ⊢
    rw [if_pos hs]
    exact ⟨by omega, by omega, by omega⟩
  · rw [if_neg hs] at b c ⊢
    rw [if_neg hs]
    exact ⟨by omega, by omega, by omega⟩
/-- The book that is easier, as a number chooses it. -/
def easB (B : Book) (s c : Int) : Book :=
  if c = 0 then (if s = 0 then { B with s0 := { B.s0 with lo := max (-40) (B.s0.lo - 1) } } else { B with s1 := { B.s1 with lo := max (-40) (B.s1.lo - 1) } })
  else if c = 1 then (if s = 0 then { B with s0 := { B.s0 with hi := min 80 (B.s0.hi + 1) } } else { B with s1 := { B.s1 with hi := min 80 (B.s1.hi + 1) } })
  else if c = 2 then { B with under := max 0 (B.under - 1) }
  else if c = 3 then { B with sink := min 20 (B.sink + 1) }
  else { B with el := max 0 (B.el - 1), eh := max 0 (B.eh - 1) }
theorem easB_eas {B : Book} (hv : B.valid = true) (s c : Int) : Eas B (easB B s c) := by
  have hV := valid_iff.1 hv
  obtain ⟨h1, h24, e0, ee, e40, e4, k1, k20, u0, u10, s6, ht, ⟨a1, a2, a3, a4, a5, a6, a7⟩, ⟨b1, b2, b3, b4, b5, b6, b7⟩, hso⟩ := hV
  unfold easB
  split
  · split
    · refine ⟨rfl, rfl, rfl, rfl, rfl, rfl, valid_iff.2 ⟨h1, h24, e0, ee, e40, e4, k1, k20, u0, u10, s6, ht, ⟨a1, a2, a3, a4, ?_, ?_, a7⟩, ⟨b1, b2, b3, b4, b5, b6, b7⟩, hso⟩, fun s ld h f hl hb => landsB_mono hl k1 ?_ ?_ ?_ ?_ ?_ ?_ ?_ hb, fun s ld h f hl hb => landsB_mono hl k1 ?_ ?_ ?_ ?_ ?_ ?_ ?_ hb⟩ <;> simp only <;> omega
    · refine ⟨rfl, rfl, rfl, rfl, rfl, rfl, valid_iff.2 ⟨h1, h24, e0, ee, e40, e4, k1, k20, u0, u10, s6, ht, ⟨a1, a2, a3, a4, a5, a6, a7⟩, ⟨b1, b2, b3, b4, ?_, ?_, b7⟩, hso⟩, fun s ld h f hl hb => landsB_mono hl k1 ?_ ?_ ?_ ?_ ?_ ?_ ?_ hb, fun s ld h f hl hb => landsB_mono hl k1 ?_ ?_ ?_ ?_ ?_ ?_ ?_ hb⟩ <;> simp only <;> omega
  · split
    · split
      · refine ⟨rfl, rfl, rfl, rfl, rfl, rfl, valid_iff.2 ⟨h1, h24, e0, ee, e40, e4, k1, k20, u0, u10, s6, ht, ⟨a1, a2, a3, a4, a5, ?_, ?_⟩, ⟨b1, b2, b3, b4, b5, b6, b7⟩, hso⟩, fun s ld h f hl hb => landsB_mono hl k1 ?_ ?_ ?_ ?_ ?_ ?_ ?_ hb, fun s ld h f hl hb => landsB_mono hl k1 ?_ ?_ ?_ ?_ ?_ ?_ ?_ hb⟩ <;> simp only <;> omega
      · refine ⟨rfl, rfl, rfl, rfl, rfl, rfl, valid_iff.2 ⟨h1, h24, e0, ee, e40, e4, k1, k20, u0, u10, s6, ht, ⟨a1, a2, a3, a4, a5, a6, a7⟩, ⟨b1, b2, b3, b4, b5, ?_, ?_⟩, hso⟩, fun s ld h f hl hb => landsB_mono hl k1 ?_ ?_ ?_ ?_ ?_ ?_ ?_ hb, fun s ld h f hl hb => landsB_mono hl k1 ?_ ?_ ?_ ?_ ?_ ?_ ?_ hb⟩ <;> simp only <;> omega
    · split
      · refine ⟨rfl, rfl, rfl, rfl, rfl, rfl, valid_iff.2 ⟨h1, h24, e0, ee, e40, e4, k1, k20, ?_, ?_, s6, ht, ⟨a1, a2, a3, a4, a5, a6, a7⟩, ⟨b1, b2, b3, b4, b5, b6, b7⟩, hso⟩, fun s ld h f hl hb => landsB_mono hl k1 ?_ ?_ ?_ ?_ ?_ ?_ ?_ hb, fun s ld h f hl hb => landsB_mono hl k1 ?_ ?_ ?_ ?_ ?_ ?_ ?_ hb⟩ <;> simp only <;> omega
      · split
        · refine ⟨rfl, rfl, rfl, rfl, rfl, rfl, valid_iff.2 ⟨h1, h24, e0, ee, e40, e4, ?_, ?_, u0, u10, s6, ht, ⟨a1, a2, a3, a4, a5, a6, a7⟩, ⟨b1, b2, b3, b4, b5, b6, b7⟩, hso⟩, fun s ld h f hl hb => landsB_mono hl k1 ?_ ?_ ?_ ?_ ?_ ?_ ?_ hb, fun s ld h f hl hb => landsB_mono hl k1 ?_ ?_ ?_ ?_ ?_ ?_ ?_ hb⟩ <;> simp only <;> omega
        · refine ⟨rfl, rfl, rfl, rfl, rfl, rfl, valid_iff.2 ⟨h1, h24, ?_, ?_, ?_, ?_, k1, k20, u0, u10, s6, ht, ⟨a1, a2, a3, a4, a5, a6, a7⟩, ⟨b1, b2, b3, b4, b5, b6, b7⟩, hso⟩, fun s ld h f hl hb => landsB_mono hl k1 ?_ ?_ ?_ ?_ ?_ ?_ ?_ hb, fun s ld h f hl hb => landsB_mono hl k1 ?_ ?_ ?_ ?_ ?_ ?_ ?_ hb⟩ <;> simp only <;> omega
end Go.Proofs.YtkbmpkdflgimmaaDoor
