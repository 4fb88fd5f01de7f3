/- Plain laws: what the lists of heights and bottoms hold. -/
import Derived.Test.YtkbmpkdflgimmaaDoorFloor
namespace Go.Proofs.YtkbmpkdflgimmaaDoor

theorem mem_hList {t : Span} {D : Int → Int → List Int} {hr f0 f1 h : Int} : h ∈ hList t D hr f0 f1 ↔ (t.lo ≤ h ∧ h ≤ t.hi) ∧ rightB D hr h f0 f1 = true := by
  unfold hList preL
  simp only [List.mem_filter, List.mem_map, List.mem_range]
  constructor
  · rintro ⟨⟨n, hn, rfl⟩, hr⟩
    exact ⟨⟨by omega, by omega⟩, hr⟩
  · rintro ⟨⟨h1, h2⟩, hr⟩
    exact ⟨⟨(h - t.lo).toNat, by omega, by omega⟩, hr⟩
theorem mem_ext0 {B : Book} {D : Int → Int → List Int} {f : Int × Int} : f ∈ ext0 B D ↔ (B.s0.fl ≤ f.1 ∧ f.1 ≤ B.s0.fh) ∧ (B.s1.fl ≤ f.2 ∧ f.2 ≤ B.s1.fh) ∧ canB B D f.1 f.2 = true := by
  obtain ⟨f0, f1⟩ := f
  unfold ext0 preC0 ext1 preC1 extC
  simp only [List.mem_flatMap, List.mem_range]
  constructor
  · rintro ⟨n, hn, m, hm, hx⟩
    split at hx
    · rename_i hc
      simp at hx
      obtain ⟨rfl, rfl⟩ := hx
      exact ⟨⟨by first | omega | (dsimp only; omega), by first | omega | (dsimp only; omega)⟩, ⟨by first | omega | (dsimp only; omega), by first | omega | (dsimp only; omega)⟩, hc⟩
    · cases hx
  · rintro ⟨⟨a1, a2⟩, ⟨b1, b2⟩, hc⟩
    refine ⟨(f0 - B.s0.fl).toNat, by omega, (f1 - B.s1.fl).toNat, by omega, ?_⟩
    have e0 : B.s0.fl + ((f0 - B.s0.fl).toNat : Int) = f0 := by omega
    have e1 : B.s1.fl + ((f1 - B.s1.fl).toNat : Int) = f1 := by omega
    rw [e0, e1, if_pos hc]
    simp
/-- All soundings of an hour, but some, are right. -/
def FitH (l : List Sound) (but : List Int) (hr h f0 f1 : Int) : Prop := ∀ (i : Nat) (y : Sound), l[i]? = some y → (i : Int) ∉ but → y.hour = hr → (y.shore = 0 → h - f0 = y.deep) ∧ (y.shore = 1 → h - f1 = y.deep)
theorem mem_dep {l : List Sound} {but : List Int} {h s d : Int} : d ∈ dep l but h s ↔ ∃ (i : Nat) (y : Sound), l[i]? = some y ∧ (i : Int) ∉ but ∧ y.hour = h ∧ y.shore = s ∧ y.deep = d := by
  unfold dep depK
  simp only [List.mem_filterMap, List.mem_range]
  constructor
  · rintro ⟨i, hi, hx⟩
    cases hy : l[i]? with
    | none => simp [hy] at hx
    | some y =>
      simp only [hy] at hx
      split at hx
      · rename_i hc
        simp at hc hx
        exact ⟨i, y, hy, hc.2, hc.1.1, hc.1.2, hx⟩
      · simp at hx
  · rintro ⟨i, y, hy, hb, h1, h2, h3⟩
    refine ⟨i, (List.getElem?_eq_some_iff.1 hy).1, ?_⟩
    simp [hy, h1, h2, h3, hb]
theorem rightB_dep {l : List Sound} {but : List Int} {hr h f0 f1 : Int} : rightB (dep l but) hr h f0 f1 = true ↔ FitH l but hr h f0 f1 := by
  unfold rightB FitH
  simp only [Bool.and_eq_true, List.all_eq_true, mem_dep, beq_iff_eq]
  constructor
  · rintro ⟨h0, h1⟩ i y hy hb hh
    exact ⟨fun e => h0 _ ⟨i, y, hy, hb, hh, e, rfl⟩, fun e => h1 _ ⟨i, y, hy, hb, hh, e, rfl⟩⟩
  · intro H
    refine ⟨?_, ?_⟩
    · rintro d ⟨i, y, hy, hb, hh, hs, rfl⟩
      exact (H i y hy hb hh).1 hs
    · rintro d ⟨i, y, hy, hb, hh, hs, rfl⟩
      exact (H i y hy hb hh).2 hs
def tideAt (B : Book) (hr : Int) : Span := B.tides.getD hr.toNat ⟨0, 0⟩
/-- A height that an hour can have, with some bottoms, without some soundings. -/
def HH (B : Book) (but : List Int) (hr : Int) (f : Int × Int) (h : Int) : Prop := ((tideAt B hr).lo ≤ h ∧ h ≤ (tideAt B hr).hi) ∧ FitH B.sounds but hr h f.1 f.2
/-- Bottoms that there can be. -/
def CC (B : Book) (but : List Int) (f : Int × Int) : Prop := (B.s0.fl ≤ f.1 ∧ f.1 ≤ B.s0.fh) ∧ (B.s1.fl ≤ f.2 ∧ f.2 ≤ B.s1.fh) ∧ ∀ hr : Nat, hr < B.tides.length → ∃ h, HH B but hr f h
def hts (B : Book) (hr : Int) (f : Int × Int) : List Int := hList (tideAt B hr) (dep B.sounds []) hr f.1 f.2
theorem mem_hts' {B : Book} {but : List Int} {hr : Int} {f : Int × Int} {h : Int} : h ∈ hList (tideAt B hr) (dep B.sounds but) hr f.1 f.2 ↔ HH B but hr f h := by
  rw [mem_hList, rightB_dep]; rfl
theorem mem_hts {B : Book} {hr : Int} {f : Int × Int} {h : Int} : h ∈ hts B hr f ↔ HH B [] hr f h := mem_hts'
theorem tideAt_nat {B : Book} {hr : Nat} (h : hr < B.tides.length) : tideAt B hr = B.tides[hr] := by
  unfold tideAt; simp [h]
theorem mem_ext0_dep {B : Book} {but : List Int} {f : Int × Int} : f ∈ ext0 B (dep B.sounds but) ↔ CC B but f := by
  rw [mem_ext0]
  unfold CC canB
  refine and_congr_right fun _ => and_congr_right fun _ => ?_
  rw [List.all_eq_true]
  refine forall_congr' fun hr => ?_
  rw [List.mem_range]
  refine forall_congr' fun hlt => ?_
  rw [List.getElem?_eq_getElem hlt]
  simp only [Bool.not_eq_true', List.isEmpty_eq_false_iff_exists_mem]
  refine exists_congr fun h => ?_
  rw [← tideAt_nat hlt]
  exact mem_hts'
theorem mem_cansB {B : Book} {f : Int × Int} : f ∈ cansB B ↔ CC B [] f := mem_ext0_dep
/-- The deck surely lands; it can land. -/
def sureB (B : Book) (s hr load : Int) : Bool := mustB B s load (tideAt B hr) (dep B.sounds []) hr (cansB B)
def maybeB (B : Book) (s hr load : Int) : Bool := mayB B s load (tideAt B hr) (dep B.sounds []) hr (cansB B)
theorem sureB_iff {B : Book} {s hr load : Int} : sureB B s hr load = true ↔ ∀ f, CC B [] f → ∀ h, HH B [] hr f h → landsB B s load h (fAt s f) B.eh = true := by
  unfold sureB mustB
  simp only [List.all_eq_true]
  constructor
  · intro H f hf h hh; exact H f (mem_cansB.2 hf) h (mem_hts.2 hh)
  · intro H f hf h hh; exact H f (mem_cansB.1 hf) h (mem_hts.1 hh)
theorem maybeB_iff {B : Book} {s hr load : Int} : maybeB B s hr load = true ↔ ∃ f, CC B [] f ∧ ∃ h, HH B [] hr f h ∧ landsB B s load h (fAt s f) B.el = true := by
  unfold maybeB mayB
  simp only [List.any_eq_true]
  constructor
  · rintro ⟨f, hf, h, hh, hl⟩; exact ⟨f, mem_cansB.1 hf, h, mem_hts.1 hh, hl⟩
  · rintro ⟨f, hf, h, hh, hl⟩; exact ⟨f, mem_cansB.2 hf, h, mem_hts.2 hh, hl⟩
theorem cans_ne {B : Book} : (cansB B).isEmpty = false ↔ ∃ f, CC B [] f := by
  rw [List.isEmpty_eq_false_iff_exists_mem]
  exact exists_congr fun f => mem_cansB
/-- What the exported functions answer. -/
def heightL (B : Book) (hr : Int) : List Int := (cansB B).flatMap fun f => hts B hr f
def hourB (B : Book) (hr : Int) : Bool := inB hr 0 ((B.tides.length : Int) - 1)
def heightR (B : Book) (hr : Int) : Int × Int × Int := if askE B (hourB B hr) = 0 then (minL (heightL B hr), maxL ((heightL B hr).head?.getD 0) (heightL B hr), 0) else (0, 0, askE B (hourB B hr))
def askL (B : Book) (s hr load : Int) : Bool := (inB s 0 1 && hourB B hr) && inB load 0 200
def landsR (B : Book) (s hr load : Int) : Int × Int := if askE B (askL B s hr load) = 0 then ((if maybeB B s hr load then 1 else 0) + (if sureB B s hr load then 1 else 0), 0) else (0, askE B (askL B s hr load))
def askM (B : Book) (s hr : Int) : Bool := inB s 0 1 && hourB B hr
def mostO : Option Nat → Int × Int
  | some n => (200 - (n : Int), 0)
  | none => (0, 4)
def firstO : Option Nat → Int × Int
  | some h => ((h : Int), 0)
  | none => (0, 4)
def mostR (B : Book) (s hr : Int) : Int × Int := if askE B (askM B s hr) = 0 then mostO ((List.range 201).find? fun (n : Nat) => sureB B s hr (200 - (n : Int))) else (0, askE B (askM B s hr))
def askF (s load : Int) : Bool := inB s 0 1 && inB load 0 200
def firstR (B : Book) (s load : Int) : Int × Int := if askE B (askF s load) = 0 then firstO ((List.range B.tides.length).find? fun (h : Nat) => sureB B s h load) else (0, askE B (askF s load))
def bothL (B : Book) (load : Int) (k : Nat) : List Int := ((List.range k).filter fun (h : Nat) => sureB B 0 h load && sureB B 1 h load).map fun (h : Nat) => (h : Int)
def bothR (B : Book) (load : Int) : List Int × Int := if askE B (inB load 0 200) = 0 then (bothL B load B.tides.length, 0) else ([], askE B (inB load 0 200))
end Go.Proofs.YtkbmpkdflgimmaaDoor
