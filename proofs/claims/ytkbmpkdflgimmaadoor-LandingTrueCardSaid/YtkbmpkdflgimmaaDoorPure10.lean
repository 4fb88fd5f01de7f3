/- Plain laws: the theorem of tides and depths. -/
import Derived.Test.YtkbmpkdflgimmaaDoorPure8
namespace Go.Proofs.YtkbmpkdflgimmaaDoor

/-- What is so: how high the water is in each hour, and the bottom at both shores, and how deep the empty deck lies. -/
structure Truth (B : Book) (hs : List Int) (f : Int × Int) (e : Int) : Prop where
  len : hs.length = B.tides.length
  hts : ∀ k : Nat, k < B.tides.length → (tideAt B k).lo ≤ hs.getD k 0 ∧ hs.getD k 0 ≤ (tideAt B k).hi
  f0 : B.s0.fl ≤ f.1 ∧ f.1 ≤ B.s0.fh
  f1 : B.s1.fl ≤ f.2 ∧ f.2 ≤ B.s1.fh
  em : B.el ≤ e ∧ e ≤ B.eh
/-- A sounding that is right, where it can be told. -/
def rightY (hs : List Int) (f : Int × Int) (y : Sound) : Option Sound :=
  if 0 ≤ hs.getD y.hour.toNat 0 - fAt y.shore f ∧ hs.getD y.hour.toNat 0 - fAt y.shore f ≤ 120 then some ⟨y.hour, y.shore, hs.getD y.hour.toNat 0 - fAt y.shore f⟩ else none
def rightK (l : List Sound) (hs : List Int) (f : Int × Int) (k : Nat) : List Sound := (l.take k).filterMap (rightY hs f)
def rightS (B : Book) (hs : List Int) (f : Int × Int) : Book := { B with sounds := rightK B.sounds hs f B.sounds.length }
theorem rightK_succ (l : List Sound) (hs : List Int) (f : Int × Int) (k : Nat) (h : k < l.length) : rightK l hs f (k + 1) = rightK l hs f k ++ (match rightY hs f l[k] with | some y => [y] | none => []) := by
  unfold rightK
  rw [List.take_succ_eq_append_getElem h, List.filterMap_append]
  congr 1
  simp only [List.filterMap_cons, List.filterMap_nil]
  cases rightY hs f l[k] <;> rfl
theorem rightK_len (l : List Sound) (hs : List Int) (f : Int × Int) (k : Nat) : (rightK l hs f k).length ≤ k := by
  unfold rightK
  exact Nat.le_trans (List.length_filterMap_le _ _) (by simp <;> omega)
theorem mem_rightK {l : List Sound} {hs : List Int} {f : Int × Int} {y : Sound} (h : y ∈ rightK l hs f l.length) : ∃ x ∈ l, y.hour = x.hour ∧ y.shore = x.shore ∧ y.deep = hs.getD x.hour.toNat 0 - fAt x.shore f ∧ 0 ≤ y.deep ∧ y.deep ≤ 120 := by
  unfold rightK at h
  rw [List.take_length] at h
  obtain ⟨x, hx, he⟩ := List.mem_filterMap.1 h
  unfold rightY at he
  split at he
  · rename_i hc
    cases he
    exact ⟨x, hx, rfl, rfl, rfl, hc.1, hc.2⟩
  · cases he
section
variable {B : Book} {hs : List Int} {f : Int × Int} {e : Int}
theorem right_valid (hV : Vld B) : Vld (rightS B hs f) := by
  refine ⟨hV.h1, hV.h24, hV.e0, hV.ee, hV.e40, hV.e4, hV.k1, hV.k20, hV.u0, hV.u10, ?_, hV.tides, hV.sh0, hV.sh1, fun y hy => ?_⟩
  · have := rightK_len B.sounds hs f B.sounds.length
    have := hV.s6
    show (rightK B.sounds hs f B.sounds.length).length ≤ 6
    omega
  · obtain ⟨x, hx, h1, h2, h3, h4, h5⟩ := mem_rightK hy
    have := hV.sounds x hx
    refine ⟨by rw [h1]; exact this.1, by rw [h2]; exact this.2.1, h4, h5⟩
theorem Truth.hh (h : Truth B hs f e) {hr : Int} (h0 : 0 ≤ hr) (h1 : hr < B.tides.length) : HH (rightS B hs f) [] hr f (hs.getD hr.toNat 0) := by
  have ht := h.hts hr.toNat (by omega)
  rw [Int.toNat_of_nonneg h0] at ht
  refine ⟨ht, fun i y hy _ hh => ?_⟩
  obtain ⟨x, hx, e1, e2, e3, _, _⟩ := mem_rightK (List.mem_of_getElem? hy)
  have hxh : x.hour = hr := by rw [← e1]; exact hh
  constructor
  · intro hs0
    rw [e3, hxh, ← e2, hs0]
    rfl
  · intro hs1
    rw [e3, hxh, ← e2, hs1]
    rfl
theorem Truth.cc (h : Truth B hs f e) : CC (rightS B hs f) [] f :=
  ⟨h.f0, h.f1, fun hr hlt => ⟨_, h.hh (hr := hr) (by omega) (by have : hr < B.tides.length := hlt; omega)⟩⟩
/-- The deck lands, by what is so. -/
def aflB (B : Book) (hs : List Int) (f : Int × Int) (e s hr ld : Int) : Bool := landsB B s ld (hs.getD hr.toNat 0) (fAt s f) e
/-- THE LAW OF TIDES AND DEPTHS. -/
theorem true_law (h : Truth B hs f e) (hV : Vld B) {s hr ld : Int} (q : Qs B s hr ld) :
    rightR (rightS B hs f) = (true, 0) ∧ wrongR (rightS B hs f) = ([], 0) ∧ (∃ a b, heightR (rightS B hs f) hr = (a, b, 0) ∧ inB (hs.getD hr.toNat 0) a b = true) ∧ (∃ u v, floorR (rightS B hs f) s = (u, v, 0) ∧ inB (fAt s f) u v = true) ∧
    (∃ k, landsR (rightS B hs f) s hr ld = (k, 0) ∧ (0 ≤ k ∧ k ≤ 2) ∧ (k = 2 → aflB (rightS B hs f) hs f e s hr ld = true) ∧ (k = 0 → aflB (rightS B hs f) hs f e s hr ld = false)) ∧
    (∃ m i, mostR (rightS B hs f) s hr = (m, i) ∧ ((i = 0 ∧ (0 ≤ m ∧ m ≤ 200) ∧ aflB (rightS B hs f) hs f e s hr m = true) ∨ i = 4)) ∧
    (∃ m i, firstR (rightS B hs f) s ld = (m, i) ∧ ((i = 0 ∧ (0 ≤ m ∧ m < B.tides.length) ∧ aflB (rightS B hs f) hs f e s m ld = true) ∨ i = 4)) ∧
    (∃ L, bothR (rightS B hs f) ld = (L, 0) ∧ Rising B.tides.length L ∧ ∀ x ∈ L, aflB (rightS B hs f) hs f e 0 x ld = true ∧ aflB (rightS B hs f) hs f e 1 x ld = true) := by
  have hX : Vld (rightS B hs f) := right_valid hV
  have hv := valid_iff.2 hX
  have qx : Qs (rightS B hs f) s hr ld := ⟨q.s0, q.s1, q.h0, q.h1, q.l0, q.l1⟩
  have hcc := h.cc
  have hc : ∃ f', CC (rightS B hs f) [] f' := ⟨f, hcc⟩
  have he : askE (rightS B hs f) true = 0 := by
    rcases ask_cases hv with ⟨h1, _⟩ | ⟨_, h2⟩
    · exact absurd hc h1
    · exact h2
  have hok : okB (rightS B hs f) [] = true := okB_iff.2 hc
  have hw : wrongL (rightS B hs f) = [] := List.length_eq_zero_iff.1 ((wrong_nil hX).2 hok)
  have sure : ∀ s hr ld : Int, 0 ≤ hr → hr < B.tides.length → sureB (rightS B hs f) s hr ld = true → aflB (rightS B hs f) hs f e s hr ld = true := fun s hr ld h0 h1 hs' =>
    landsB_empty h.em.2 (sureB_iff.1 hs' f hcc _ (h.hh h0 h1))
  refine ⟨by rw [rightR_ok hv, hok], by simp [wrongR, hv, hw], ?_, ?_, ?_, ?_, ?_, ?_⟩
  · obtain ⟨a, b, h1, _, _, h4⟩ := heightR_ok he hc qx
    exact ⟨a, b, h1, inB_true (h4 _ f hcc (h.hh q.h0 q.h1)).1 (h4 _ f hcc (h.hh q.h0 q.h1)).2⟩
  · obtain ⟨u, v, h1, _, _, h4⟩ := floorR_ok he hc qx
    exact ⟨u, v, h1, inB_true (h4 f hcc).1 (h4 f hcc).2⟩
  · refine ⟨_, landsR_ok he qx, kind_range _ _ _ _, fun hk => ?_, fun hk => ?_⟩
    · exact sure s hr ld q.h0 q.h1 ((kind_two hX hc q.h0 q.h1).1 hk)
    · have hm := (kind_zero hX hc q.h0 q.h1).1 hk
      cases ha : aflB (rightS B hs f) hs f e s hr ld
      · rfl
      · rw [maybeB_iff.2 ⟨f, hcc, _, h.hh q.h0 q.h1, landsB_empty h.em.1 ha⟩] at hm
        cases hm
  · rcases mostR_ok he qx with ⟨h3, _⟩ | ⟨m, h3, h5, h6, h7, _⟩
    · exact ⟨_, _, h3, .inr rfl⟩
    · exact ⟨_, _, h3, .inl ⟨rfl, ⟨h5, h6⟩, sure s hr m q.h0 q.h1 h7⟩⟩
  · rcases firstR_ok he qx with ⟨h3, _⟩ | ⟨m, h3, h5, h6, h7, _⟩
    · exact ⟨_, _, h3, .inr rfl⟩
    · exact ⟨_, _, h3, .inl ⟨rfl, ⟨h5, h6⟩, sure s m ld h5 h6 h7⟩⟩
  · refine ⟨_, bothR_ok he qx, bothL_rising _ _ _, fun x hx => ?_⟩
    obtain ⟨⟨a, b⟩, c, d⟩ := mem_bothL.1 hx
    exact ⟨sure 0 x ld a b c, sure 1 x ld a b d⟩
end
end Go.Proofs.YtkbmpkdflgimmaaDoor
