/- Plain laws: water, bottom and slips that are all so much higher. -/
import Derived.Test.YtkbmpkdflgimmaaDoorPure8
namespace Go.Proofs.YtkbmpkdflgimmaaDoor

def upT (n : Int) (t : Span) : Span := ⟨t.lo + n, t.hi + n⟩
def upSh (n : Int) (x : Shore) : Shore := ⟨x.fl + n, x.fh + n, x.lo + n, x.hi + n⟩
/-- A book in which all is so much higher. -/
def upB (B : Book) (n : Int) : Book := { B with tides := B.tides.map (upT n), s0 := upSh n B.s0, s1 := upSh n B.s1 }
section
variable {B : Book} {n : Int}
theorem up_len : (upB B n).tides.length = B.tides.length := by simp [upB]
theorem tideAt_up {hr : Int} (h0 : 0 ≤ hr) (h1 : hr < B.tides.length) : tideAt (upB B n) hr = upT n (tideAt B hr) := by
  have h : hr.toNat < B.tides.length := by omega
  have h' : hr.toNat < (upB B n).tides.length := by rw [up_len]; exact h
  unfold tideAt
  rw [List.getD_eq_getElem?_getD, List.getD_eq_getElem?_getD, List.getElem?_eq_getElem h, List.getElem?_eq_getElem h']
  simp [upB]
theorem HH.up {but : List Int} {hr : Int} {f : Int × Int} {x : Int} (h0 : 0 ≤ hr) (h1 : hr < B.tides.length) : HH (upB B n) but hr (f.1 + n, f.2 + n) (x + n) ↔ HH B but hr f x := by
  unfold HH
  rw [tideAt_up h0 h1]
  refine and_congr ⟨fun h => ⟨?_, ?_⟩, fun h => ⟨?_, ?_⟩⟩ ⟨fun h i y hy hb hh => ?_, fun h i y hy hb hh => ?_⟩
  · have := h.1; simp [upT] at this; omega
  · have := h.2; simp [upT] at this; omega
  · have := h.1; simp [upT]; omega
  · have := h.2; simp [upT]; omega
  · have := h i y hy hb hh
    simp only at this
    exact ⟨fun e => by have := this.1 e; omega, fun e => by have := this.2 e; omega⟩
  · have := h i y hy hb hh
    simp only
    exact ⟨fun e => by have := this.1 e; omega, fun e => by have := this.2 e; omega⟩
theorem up_ex (x n : Int) : ∃ y, x = y + n := ⟨x - n, by omega⟩
theorem up_ex2 (f : Int × Int) (n : Int) : ∃ g : Int × Int, f = (g.1 + n, g.2 + n) := ⟨(f.1 - n, f.2 - n), by ext <;> simp⟩
theorem CC.up {but : List Int} {f : Int × Int} : CC (upB B n) but (f.1 + n, f.2 + n) ↔ CC B but f := by
  unfold CC
  refine and_congr ⟨fun h => ?_, fun h => ?_⟩ (and_congr ⟨fun h => ?_, fun h => ?_⟩ ⟨fun h hr hlt => ?_, fun h hr hlt => ?_⟩)
  · have := h.1; have := h.2; simp [upB, upSh] at *; omega
  · have := h.1; have := h.2; simp [upB, upSh] at *; omega
  · have := h.1; have := h.2; simp [upB, upSh] at *; omega
  · have := h.1; have := h.2; simp [upB, upSh] at *; omega
  · obtain ⟨x, hx⟩ := h hr (by rw [up_len]; exact hlt)
    obtain ⟨y, rfl⟩ := up_ex x n
    exact ⟨y, (HH.up (by omega) (by omega)).1 hx⟩
  · rw [up_len] at hlt
    obtain ⟨x, hx⟩ := h hr hlt
    exact ⟨x + n, (HH.up (by omega) (by omega)).2 hx⟩
theorem CC.up_ex {but : List Int} : (∃ f, CC (upB B n) but f) ↔ ∃ f, CC B but f := by
  constructor
  · rintro ⟨f, hf⟩
    obtain ⟨g, rfl⟩ := up_ex2 f n
    exact ⟨g, CC.up.1 hf⟩
  · rintro ⟨f, hf⟩
    exact ⟨_, CC.up.2 hf⟩
theorem fAt_up {s : Int} {f : Int × Int} : fAt s (f.1 + n, f.2 + n) = fAt s f + n := by unfold fAt; split <;> rfl
theorem landsB_up {s ld h f e : Int} : landsB (upB B n) s ld (h + n) (f + n) e = landsB B s ld h f e := by
  rw [Bool.eq_iff_iff]
  simp only [landsB, inB, Bool.and_eq_true, decide_eq_true_eq]
  simp only [upB, upSh]
  by_cases hs : s = 0
  · simp only [if_pos hs]
    refine ⟨fun ⟨h1, h2, h3⟩ => ⟨by omega, by omega, by omega⟩, fun ⟨h1, h2, h3⟩ => ⟨by omega, by omega, by omega⟩⟩
  · simp only [if_neg hs]
    refine ⟨fun ⟨h1, h2, h3⟩ => ⟨by omega, by omega, by omega⟩, fun ⟨h1, h2, h3⟩ => ⟨by omega, by omega, by omega⟩⟩
theorem sure_up {s hr ld : Int} (h0 : 0 ≤ hr) (h1 : hr < B.tides.length) : sureB (upB B n) s hr ld = sureB B s hr ld := by
  rw [Bool.eq_iff_iff, sureB_iff, sureB_iff]
  constructor
  · intro H f hf x hx
    have := H _ (CC.up.2 hf) _ ((HH.up h0 h1).2 hx)
    rwa [fAt_up, landsB_up] at this
  · intro H f hf x hx
    obtain ⟨g, rfl⟩ := up_ex2 f n
    obtain ⟨y, rfl⟩ := Go.Proofs.YtkbmpkdflgimmaaDoor.up_ex x n
    rw [fAt_up]
    refine Eq.trans landsB_up ?_
    exact H g (CC.up.1 hf) y ((HH.up h0 h1).1 hx)
theorem maybe_up {s hr ld : Int} (h0 : 0 ≤ hr) (h1 : hr < B.tides.length) : maybeB (upB B n) s hr ld = maybeB B s hr ld := by
  rw [Bool.eq_iff_iff, maybeB_iff, maybeB_iff]
  constructor
  · rintro ⟨f, hf, x, hx, hl⟩
    obtain ⟨g, rfl⟩ := up_ex2 f n
    obtain ⟨y, rfl⟩ := Go.Proofs.YtkbmpkdflgimmaaDoor.up_ex x n
    rw [fAt_up] at hl
    exact ⟨g, CC.up.1 hf, y, (HH.up h0 h1).1 hx, landsB_up.symm.trans hl⟩
  · rintro ⟨f, hf, x, hx, hl⟩
    exact ⟨_, CC.up.2 hf, _, (HH.up h0 h1).2 hx, by rw [fAt_up]; exact landsB_up.trans hl⟩
theorem okB_up {l : List Int} : okB (upB B n) l = okB B l := by rw [Bool.eq_iff_iff, okB_iff, okB_iff]; exact CC.up_ex
theorem choose_up : ∀ (d : Nat) (l : List Int), chooseB (upB B n) d l = chooseB B d l
  | 0, l => by unfold chooseB; rw [okB_up]
  | d + 1, l => by
    rw [chooseB_succ, chooseB_succ]
    have : (fun i : Nat => chooseB (upB B n) d (l ++ [(i : Int)])) = fun i : Nat => chooseB B d (l ++ [(i : Int)]) := funext fun i => choose_up d _
    rw [this]
    rfl
theorem wrong_up (hv : B.valid = true) (hx : (upB B n).valid = true) : wrongR (upB B n) = wrongR B := by
  unfold wrongR wrongL
  have : (fun many => chooseB (upB B n) many []) = fun many => chooseB B many [] := funext fun i => choose_up i _
  rw [hv, hx, this]
  rfl
theorem ask_up (hv : B.valid = true) (hx : (upB B n).valid = true) : askE (upB B n) true = askE B true := by
  rcases ask_cases hv with ⟨h1, h2⟩ | ⟨h1, h2⟩ <;> rcases ask_cases hx with ⟨h3, h4⟩ | ⟨h3, h4⟩
  · rw [h2, h4]
  · exact absurd (CC.up_ex.1 h3) h1
  · exact absurd (CC.up_ex.2 h1) h3
  · rw [h2, h4]
theorem find_congr {α : Type} {p q : α → Bool} : ∀ {l : List α}, (∀ x ∈ l, p x = q x) → l.find? p = l.find? q
  | [], _ => rfl
  | a :: l, h => by
    rw [List.find?_cons, List.find?_cons, h a (List.mem_cons_self ..), find_congr fun x hx => h x (List.mem_cons_of_mem _ hx)]
theorem up_qs {s hr ld : Int} (q : Qs B s hr ld) : Qs (upB B n) s hr ld := ⟨q.s0, q.s1, q.h0, by rw [up_len]; exact q.h1, q.l0, q.l1⟩
/-- THE LAW OF HIGHER WATER. -/
theorem higher_law {s hr ld : Int} (hv : B.valid = true) (q : Qs B s hr ld) :
    checkE (upB B n) = 20 ∨ (checkE (upB B n) = 0 ∧ (∃ a b a2 b2 e, heightR B hr = (a, b, e) ∧ heightR (upB B n) hr = (a2, b2, e) ∧ ((e = 22 ∧ a = 0 ∧ b = 0) ∨ (e = 0 ∧ a2 = a + n ∧ b2 = b + n)) ∧ (-40 ≤ a ∧ a ≤ 80) ∧ (-40 ≤ b ∧ b ≤ 80)) ∧
      landsR (upB B n) s hr ld = landsR B s hr ld ∧ mostR (upB B n) s hr = mostR B s hr ∧ firstR (upB B n) s ld = firstR B s ld ∧ bothR (upB B n) ld = bothR B ld ∧ wrongR (upB B n) = wrongR B ∧ (wrongR B).2 = 0) := by
  have hV := valid_iff.1 hv
  cases hx : (upB B n).valid
  · left; simp [checkE, hx]
  · right
    have ha := ask_up hv hx
    have qx := up_qs (n := n) q
    have hm : mostR (upB B n) s hr = mostR B s hr := by
      have h1 : askM (upB B n) s hr = true := by simp [askM, qx.sh, qx.ho]
      have h2 : askM B s hr = true := by simp [askM, q.sh, q.ho]
      unfold mostR
      rw [h1, h2, ha]
      have : (fun k : Nat => sureB (upB B n) s hr (200 - (k : Int))) = fun k : Nat => sureB B s hr (200 - (k : Int)) := funext fun k => sure_up q.h0 q.h1
      rw [this]
    have hf : firstR (upB B n) s ld = firstR B s ld := by
      unfold firstR
      have : askF s ld = true := by simp [askF, q.sh, q.lo]
      rw [this, ha, up_len, find_congr (q := fun h : Nat => sureB B s h ld) fun x hx => sure_up (by omega) (by have := List.mem_range.1 hx; omega)]
    have hb : bothR (upB B n) ld = bothR B ld := by
      have : bothL (upB B n) ld B.tides.length = bothL B ld B.tides.length := by
        unfold bothL
        congr 1
        refine List.filter_congr fun x hx => ?_
        have := List.mem_range.1 hx
        rw [sure_up (by omega) (by omega), sure_up (by omega) (by omega)]
      unfold bothR
      rw [q.lo, ha, up_len, this]
    have hw := wrong_up (n := n) hv hx
    have hc : checkE (upB B n) = 0 := by simp [checkE, hx]
    have hw2 : (wrongR B).2 = 0 := by simp [wrongR, hv]
    have hl : landsR (upB B n) s hr ld = landsR B s hr ld := by
      have h1 : askL (upB B n) s hr ld = true := by simp [askL, qx.sh, qx.ho, q.lo]
      have h2 : askL B s hr ld = true := by simp [askL, q.sh, q.ho, q.lo]
      unfold landsR
      rw [h1, h2, ha, sure_up q.h0 q.h1, maybe_up q.h0 q.h1]
    refine ⟨hc, ?_, hl, hm, hf, hb, hw, hw2⟩
    rcases ask_cases hv with ⟨_, he⟩ | ⟨hcc, he⟩
    · exact ⟨0, 0, 0, 0, 22, heightR_err he (by decide) q, heightR_err (ha.trans he) (by decide) qx, .inl ⟨rfl, rfl, rfl⟩, by decide, by decide⟩
    · obtain ⟨a, b, h1, ⟨f1, c1, d1⟩, ⟨f2, c2, d2⟩, h4⟩ := heightR_ok he hcc q
      obtain ⟨a2, b2, g1, ⟨f3, c3, d3⟩, ⟨f4, c4, d4⟩, g4⟩ := heightR_ok (ha.trans he) (CC.up_ex.2 hcc) qx
      have e1 := g4 _ _ (CC.up.2 c1) ((HH.up q.h0 q.h1).2 d1)
      have e2 := g4 _ _ (CC.up.2 c2) ((HH.up q.h0 q.h1).2 d2)
      obtain ⟨f3, rfl⟩ := up_ex2 f3 n
      obtain ⟨f4, rfl⟩ := up_ex2 f4 n
      obtain ⟨a3, rfl⟩ := Go.Proofs.YtkbmpkdflgimmaaDoor.up_ex a2 n
      obtain ⟨b3, rfl⟩ := Go.Proofs.YtkbmpkdflgimmaaDoor.up_ex b2 n
      have e3 := h4 _ _ (CC.up.1 c3) ((HH.up q.h0 q.h1).1 d3)
      have e4 := h4 _ _ (CC.up.1 c4) ((HH.up q.h0 q.h1).1 d4)
      have hk : hr.toNat < B.tides.length := by have := q.h0; have := q.h1; omega
      have ht : tideAt B hr = B.tides[hr.toNat] := by have := tideAt_nat hk; rwa [Int.toNat_of_nonneg q.h0] at this
      have t1 := hV.tides _ (List.getElem_mem hk)
      rw [← ht] at t1
      have i1 := d1.1
      have i2 := d2.1
      exact ⟨a, b, _, _, 0, h1, g1, .inr ⟨rfl, by omega, by omega⟩, by omega, by omega⟩
end
end Go.Proofs.YtkbmpkdflgimmaaDoor
