/- Plain laws: both ends of a height, of a bottom, can be so. -/
import Derived.Test.YtkbmpkdflgimmaaDoorEnds1
namespace Go.Proofs.YtkbmpkdflgimmaaDoor

theorem tideAt_set {B : Book} {k : Nat} {x : Int} (hk : k < B.tides.length) (hr : Nat) : tideAt (setTide B k x) hr = if hr = k then ⟨x, x⟩ else tideAt B hr := by
  unfold tideAt setTide
  simp only [Int.toNat_natCast, List.getD_eq_getElem?_getD, List.getElem?_set]
  by_cases h : k = hr
  · subst h; simp [hk]
  · rw [if_neg h, if_neg (fun e => h e.symm)]
theorem CC.tide {B : Book} {k : Nat} {x : Int} (hk : k < B.tides.length) (h1 : (tideAt B k).lo ≤ x) (h2 : x ≤ (tideAt B k).hi) {f : Int × Int} : CC (setTide B k x) [] f ↔ CC B [] f ∧ HH B [] k f x := by
  have hlen : (setTide B k x).tides.length = B.tides.length := by simp [setTide]
  constructor
  · rintro ⟨c1, c2, c3⟩
    have hx : HH B [] k f x := by
      obtain ⟨h, g1, g2⟩ := c3 k (by omega)
      rw [tideAt_set hk, if_pos rfl] at g1
      obtain rfl : h = x := by have := g1.1; have := g1.2; simp at *; omega
      exact ⟨⟨h1, h2⟩, g2⟩
    refine ⟨⟨c1, c2, fun hr hlt => ?_⟩, hx⟩
    by_cases h : hr = k
    · subst h; exact ⟨x, hx⟩
    · obtain ⟨h', g1, g2⟩ := c3 hr (by omega)
      rw [tideAt_set hk, if_neg h] at g1
      exact ⟨h', g1, g2⟩
  · rintro ⟨⟨c1, c2, c3⟩, hx⟩
    refine ⟨c1, c2, fun hr hlt => ?_⟩
    by_cases h : hr = k
    · subst h
      exact ⟨x, by rw [tideAt_set hk, if_pos rfl]; exact ⟨Int.le_refl _, Int.le_refl _⟩, hx.2⟩
    · obtain ⟨h', g1, g2⟩ := c3 hr (by omega)
      exact ⟨h', by rw [tideAt_set hk, if_neg h]; exact g1, g2⟩
theorem setTide_valid {B : Book} (hV : Vld B) {k : Nat} {x : Int} (hk : k < B.tides.length) (h1 : (tideAt B k).lo ≤ x) (h2 : x ≤ (tideAt B k).hi) : Vld (setTide B k x) := by
  have ht := hV.tides _ (List.getElem_mem hk)
  rw [tideAt_nat hk] at h1 h2
  have hlen : (setTide B k x).tides.length = B.tides.length := by simp [setTide]
  refine ⟨by rw [hlen]; exact hV.h1, by rw [hlen]; exact hV.h24, hV.e0, hV.ee, hV.e40, hV.e4, hV.k1, hV.k20, hV.u0, hV.u10, hV.s6, fun t htm => ?_, hV.sh0, hV.sh1, fun y hy => by rw [hlen]; exact hV.sounds y hy⟩
  rcases List.mem_or_eq_of_mem_set htm with h | rfl
  · exact hV.tides t h
  · simp only
    omega
theorem rightR_tide {B : Book} (hV : Vld B) {k : Nat} {x : Int} (hk : k < B.tides.length) (h1 : (tideAt B k).lo ≤ x) (h2 : x ≤ (tideAt B k).hi) :
    ∃ is : Bool, rightR (setTide B k x) = (is, 0) ∧ (is = true ↔ ∃ f, CC B [] f ∧ HH B [] k f x) :=
  ⟨_, rightR_ok (valid_iff.2 (setTide_valid hV hk h1 h2)), by rw [okB_iff]; exact exists_congr fun f => CC.tide hk h1 h2⟩
theorem CC.floor {B : Book} {s y : Int} (hs : s = 0 ∨ s = 1) (h1 : s = 0 → B.s0.fl ≤ y ∧ y ≤ B.s0.fh) (h2 : s = 1 → B.s1.fl ≤ y ∧ y ≤ B.s1.fh) {f : Int × Int} : CC (setFl B s y) [] f ↔ CC B [] f ∧ fAt s f = y := by
  rcases hs with rfl | rfl
  · have h1 := h1 rfl
    constructor
    · rintro ⟨⟨c1, c2⟩, c3, c4⟩
      simp [setFl] at c1 c2
      have e : f.1 = y := by omega
      exact ⟨⟨by omega, c3, c4⟩, by simpa [fAt] using e⟩
    · rintro ⟨⟨c1, c3, c4⟩, e⟩
      have e : f.1 = y := by simpa [fAt] using e
      exact ⟨by simp [setFl]; omega, c3, c4⟩
  · have h2 := h2 rfl
    constructor
    · rintro ⟨c1, ⟨c2, c3⟩, c4⟩
      simp [setFl] at c2 c3
      have e : f.2 = y := by omega
      exact ⟨⟨c1, by omega, c4⟩, by simpa [fAt] using e⟩
    · rintro ⟨⟨c1, c3, c4⟩, e⟩
      have e : f.2 = y := by simpa [fAt] using e
      exact ⟨c1, by simp [setFl]; omega, c4⟩
def flOf (B : Book) (s : Int) : Int := if s = 0 then B.s0.fl else B.s1.fl
def fhOf (B : Book) (s : Int) : Int := if s = 0 then B.s0.fh else B.s1.fh
theorem setFl_valid {B : Book} (hV : Vld B) {s y : Int} (hs : s = 0 ∨ s = 1) (h1 : flOf B s ≤ y) (h2 : y ≤ fhOf B s) : Vld (setFl B s y) := by
  obtain ⟨a1, a2, a3, a4, a5, a6, a7, a8, a9, a10, a11, a12, ⟨b1, b2, b3, b4, b5, b6, b7⟩, ⟨d1, d2, d3, d4, d5, d6, d7⟩, a13⟩ := hV
  rcases hs with rfl | rfl
  · simp [flOf, fhOf] at h1 h2
    exact ⟨a1, a2, a3, a4, a5, a6, a7, a8, a9, a10, a11, a12, ⟨by simp [setFl]; omega, by simp [setFl], by simp [setFl]; omega, by simp [setFl], by simpa [setFl] using b5, by simpa [setFl] using b6, by simpa [setFl] using b7⟩, ⟨d1, d2, d3, d4, d5, d6, d7⟩, a13⟩
  · simp [flOf, fhOf] at h1 h2
    exact ⟨a1, a2, a3, a4, a5, a6, a7, a8, a9, a10, a11, a12, ⟨b1, b2, b3, b4, b5, b6, b7⟩, ⟨by simp [setFl]; omega, by simp [setFl], by simp [setFl]; omega, by simp [setFl], by simpa [setFl] using d5, by simpa [setFl] using d6, by simpa [setFl] using d7⟩, a13⟩
theorem rightR_floor {B : Book} (hV : Vld B) {s y : Int} (hs : s = 0 ∨ s = 1) (h1 : flOf B s ≤ y) (h2 : y ≤ fhOf B s) :
    ∃ so : Bool, rightR (setFl B s y) = (so, 0) ∧ (so = true ↔ ∃ f, CC B [] f ∧ fAt s f = y) :=
  ⟨_, rightR_ok (valid_iff.2 (setFl_valid hV hs h1 h2)), by
    rw [okB_iff]
    exact exists_congr fun f => CC.floor hs (fun e => by subst e; simpa [flOf, fhOf] using And.intro h1 h2) (fun e => by subst e; simpa [flOf, fhOf] using And.intro h1 h2)⟩
/-- THE LAW OF THE ENDS. -/
theorem ends_law {B : Book} {s hr ld : Int} (hv : B.valid = true) (q : Qs B s hr ld) :
    (heightR B hr = (0, 0, 22) ∧ floorR B s = (0, 0, 22)) ∨
    ∃ a b u v, heightR B hr = (a, b, 0) ∧ floorR B s = (u, v, 0) ∧ (a ≤ b ∧ u ≤ v) ∧ ((tideAt B hr).lo ≤ a ∧ b ≤ (tideAt B hr).hi) ∧ (flOf B s ≤ u ∧ v ≤ fhOf B s) ∧
      (∀ x, (tideAt B hr).lo ≤ x → x ≤ (tideAt B hr).hi → ∃ is : Bool, rightR (setTide B hr.toNat x) = (is, 0) ∧ (x = a ∨ x = b → is = true) ∧ (is = true → a ≤ x ∧ x ≤ b)) ∧
      (∀ y, flOf B s ≤ y → y ≤ fhOf B s → ∃ so : Bool, rightR (setFl B s y) = (so, 0) ∧ (y = u ∨ y = v → so = true) ∧ (so = true → u ≤ y ∧ y ≤ v)) := by
  have hV := valid_iff.1 hv
  have hss : s = 0 ∨ s = 1 := by have := q.s0; have := q.s1; omega
  rcases ask_cases hv with ⟨_, he⟩ | ⟨hc, he⟩
  · exact .inl ⟨heightR_err he (by decide) q, floorR_err he (by decide) q⟩
  · right
    obtain ⟨a, b, h1, ⟨f1, c1, d1⟩, ⟨f2, c2, d2⟩, h4⟩ := heightR_ok he hc q
    obtain ⟨u, v, i1, ⟨f3, c3, d3⟩, ⟨f4, c4, d4⟩, i4⟩ := floorR_ok he hc q
    have hk : hr.toNat < B.tides.length := by have := q.h0; have := q.h1; omega
    have hke : ((hr.toNat : Nat) : Int) = hr := Int.toNat_of_nonneg q.h0
    have hfl : ∀ f, CC B [] f → flOf B s ≤ fAt s f ∧ fAt s f ≤ fhOf B s := fun f hf => by
      rcases hss with rfl | rfl
      · simpa [flOf, fhOf, fAt] using hf.1
      · simpa [flOf, fhOf, fAt] using hf.2.1
    refine ⟨a, b, u, v, h1, i1, ⟨(h4 a f1 c1 d1).2, by have := (i4 f3 c3).2; omega⟩, ⟨d1.1.1, d2.1.2⟩, ⟨by have := (hfl f3 c3).1; omega, by have := (hfl f4 c4).2; omega⟩, fun x hx1 hx2 => ?_, fun y hy1 hy2 => ?_⟩
    · obtain ⟨is, g1, g2⟩ := rightR_tide hV hk (x := x) (by rw [hke]; exact hx1) (by rw [hke]; exact hx2)
      rw [hke] at g2
      refine ⟨is, g1, ?_, fun h => ?_⟩
      · rintro (rfl | rfl)
        · exact g2.2 ⟨f1, c1, d1⟩
        · exact g2.2 ⟨f2, c2, d2⟩
      · obtain ⟨f, hf, hx⟩ := g2.1 h
        exact h4 x f hf hx
    · obtain ⟨so, g1, g2⟩ := rightR_floor hV hss hy1 hy2
      refine ⟨so, g1, ?_, fun h => ?_⟩
      · rintro (rfl | rfl)
        · exact g2.2 ⟨f3, c3, d3⟩
        · exact g2.2 ⟨f4, c4, d4⟩
      · obtain ⟨f, hf, hx⟩ := g2.1 h
        have := i4 f hf
        omega
end Go.Proofs.YtkbmpkdflgimmaaDoor
