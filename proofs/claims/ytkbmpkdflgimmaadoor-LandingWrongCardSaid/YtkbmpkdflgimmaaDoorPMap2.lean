/- The map from places to depths: entering a place and storing there. -/
import Derived.Test.YtkbmpkdflgimmaaDoorFrom1
namespace Go.Proofs.YtkbmpkdflgimmaaDoor
open Go.RowKit Go.Shelf

theorem ents_get (M : List PE) (i : Nat) : (ents M)[i]? = (M[i]?).map fun p => ent p i := by
  simp only [ents, List.getElem?_map, List.getElem?_zipIdx, Option.map_map]
  cases M[i]? <;> simp
theorem ents_len (M : List PE) : (ents M).length = M.length := by simp [ents]
theorem findP_some (h s : Int) : ∀ (M : List PE) (k i : Nat) (v : Value), findP h s M k = some (i, v) → k ≤ i ∧ ∃ p, M[i - k]? = some p ∧ p.h = h ∧ p.s = s ∧ p.v = v
  | [], _, _, _, e => by simp [findP] at e
  | p :: M, k, i, v, e => by
    unfold findP at e
    split at e
    · rename_i hc
      simp at e hc
      obtain ⟨rfl, rfl⟩ := e
      exact ⟨Nat.le_refl _, p, by simp, hc.1.symm, hc.2.symm, rfl⟩
    · obtain ⟨h1, q, h2, h3⟩ := findP_some h s M (k + 1) i v e
      refine ⟨by omega, q, ?_, h3⟩
      rw [show i - k = (i - (k + 1)) + 1 by omega]
      simpa using h2
theorem findP_append (h s : Int) (q : PE) : ∀ (M : List PE) (k : Nat), findP h s (M ++ [q]) k = match findP h s M k with
    | some x => some x
    | none => if h == q.h && s == q.s then some (k + M.length, q.v) else none
  | [], k => by simp [findP]
  | p :: M, k => by
    simp only [List.cons_append, findP, List.length_cons]
    split
    · rfl
    · rw [findP_append h s q M (k + 1), show k + 1 + M.length = k + (M.length + 1) by omega]
/-- Storing at the entry that the place has. -/
theorem findP_set (h s : Int) (v : Value) : ∀ (M : List PE) (k i : Nat) (u : Value), findP h s M k = some (i, u) → ∀ h' s', findP h' s' (M.set (i - k) ⟨h, s, v⟩) k = if h' == h && s' == s then some (i, v) else findP h' s' M k
  | [], _, _, _, e, _, _ => by simp [findP] at e
  | p :: M, k, i, u, e, h', s' => by
    unfold findP at e
    split at e
    · rename_i hc
      simp at e hc
      obtain ⟨rfl, rfl⟩ := e
      simp only [Nat.sub_self, List.set_cons_zero, findP]
      by_cases hh : (h' == h && s' == s) = true
      · simp [hh]
      · have : (h' == p.h && s' == p.s) = false := by rw [← hc.1, ← hc.2]; simpa using hh
        simp [hh, this]
    · rename_i hc
      have h1 := (findP_some h s M (k + 1) i u e).1
      rw [show i - k = (i - (k + 1)) + 1 by omega, List.set_cons_succ]
      simp only [findP]
      by_cases hp : (h' == p.h && s' == p.s) = true
      · have : (h' == h && s' == s) = false := by
          cases hx : (h' == h && s' == s)
          · rfl
          · simp at hx hp hc
            exact absurd (by rw [← hx.2]; exact hp.2) (hc (by rw [← hx.1]; exact hp.1))
        simp [hp, this]
      · simp only [hp]
        exact findP_set h s v M (k + 1) i u e h' s'
/-- The entries when a place has been entered. -/
def entered (h s : Int) (M : List PE) : List PE := match findP h s M 0 with
  | some _ => M
  | none => M ++ [⟨h, s, .slice none 0 0⟩]
def entryAt (h s : Int) (M : List PE) : Nat := match findP h s M 0 with
  | some (i, _) => i
  | none => M.length
theorem entered_find (h s : Int) (M : List PE) : findP h s (entered h s M) 0 = some (entryAt h s M, lookV h s M) := by
  unfold entered entryAt lookV
  cases e : findP h s M 0 with
  | some x => simp [e]
  | none => simp [findP_append, e]
theorem lookV_entered (h s h' s' : Int) (M : List PE) : lookV h' s' (entered h s M) = lookV h' s' M := by
  unfold entered lookV
  cases e : findP h s M 0 with
  | some x => rfl
  | none =>
    simp only [findP_append]
    cases e2 : findP h' s' M 0 with
    | some x => rfl
    | none => by_cases hc : (h' == h && s' == s) = true <;> simp [hc]
/-- The entries when v has been stored at a place. -/
def stored (h s : Int) (v : Value) (M : List PE) : List PE := (entered h s M).set (entryAt h s M) ⟨h, s, v⟩
theorem lookV_stored (h s : Int) (v : Value) (M : List PE) (h' s' : Int) : lookV h' s' (stored h s v M) = if h' == h && s' == s then v else lookV h' s' M := by
  have h1 := findP_set h s v (entered h s M) 0 _ _ (entered_find h s M) h' s'
  rw [← lookV_entered h s h' s' M]
  unfold lookV stored
  simp only [Nat.sub_zero] at h1
  rw [h1]
  by_cases hc : (h' == h && s' == s) = true <;> simp [hc]
theorem MapAt.put {W : World} {m : Nat} {M M' : List PE} (h : MapAt W m M) : MapAt (W.putObj m (.map (ents M').toArray M'.length)) m M' := World.putObj_heap_same (Array.getElem?_eq_some_iff.1 h).1
theorem run_mapEntry90 {W : World} {m : Nat} {M : List PE} (hm : MapAt W m M) (h s : Int) :
    (Instr.mapEntry 90 (.map (some m)) (placeV h s)).run Tryd.prog W = .ok (.tuple #[lookV h s M, i64 (entryAt h s M)]) (W.putObj m (.map (ents (entered h s M)).toArray (entered h s M).length)) := by
  have hfind := run_findKey107 h s M W
  unfold Instr.mapEntry
  rw [Sem.run_bind, run_underlying Tryd.underlying90 W]
  simp only [Result.andThen_ok, Sem.run_bind, MapKept.run_getObj_map hm, run_check107, hfind]
  unfold entered entryAt lookV
  cases e : findP h s M 0 with
  | none =>
    have hz := zero40 W
    simp only [Sem.run_bind, hz, Result.andThen_ok, MapKept.run_setObj_map _ hm, Sem.run_pure, Option.map_none, Option.getD_none, World.putObj]
    have ep : (ents M).toArray.push { key := placeV h s, val := .slice none 0 0, born := M.length } = (ents (M ++ [⟨h, s, .slice none 0 0⟩])).toArray := by
      apply Array.ext'
      simp [ents, List.zipIdx_append, ent]
    rw [ep]
    simp [goInt]
  | some x =>
    obtain ⟨i, v⟩ := x
    obtain ⟨_, p, h2, h3, h4, h5⟩ := findP_some h s M 0 i v e
    simp only [Nat.sub_zero] at h2
    have hi : (ents M).toArray[i]? = some (ent p i) := by rw [List.getElem?_toArray, ents_get, h2]; rfl
    have hk : (Instr.keyThatStays (placeV p.h p.s) (placeV h s)).run Tryd.prog W = .ok (placeV h s) W := by
      rw [h3, h4]
      simp [Instr.keyThatStays, Instr.sameBits]
    have em : ((ents M).toArray.modify i fun e => { e with key := placeV h s }) = (ents M).toArray := by
      apply Array.ext_getElem?
      intro j
      rw [Array.getElem?_modify]
      split
      · rename_i hj
        subst hj
        rw [hi]
        simp [ent, h3, h4]
      · rfl
    simp only [hi, Option.map_some, Option.getD_some, ent, Sem.run_bind, hk, Result.andThen_ok, em, MapKept.run_setObj_map _ hm, Sem.run_pure, World.putObj]
    simp [goInt]
theorem findIdx_ents : ∀ (M : List PE) (k i : Nat), i < M.length → ((M.zipIdx k).map fun x => ent x.1 x.2).findIdx? (fun e => (e.born : Int) == ((k + i : Nat) : Int)) = some i
  | [], _, _, h => by simp at h
  | p :: M, k, 0, _ => by simp [List.zipIdx_cons, List.findIdx?_cons, ent]
  | p :: M, k, i + 1, h => by
    have h' := findIdx_ents M (k + 1) i (by simpa using h)
    rw [show k + 1 + i = k + (i + 1) by omega] at h'
    rw [List.zipIdx_cons, List.map_cons, List.findIdx?_cons, h']
    have : ¬ ((ent p k).born : Int) = (k : Int) + ((i : Int) + 1) := by simp only [ent]; omega
    simp [this]
theorem entryAt_lt (h s : Int) (M : List PE) : entryAt h s M < (entered h s M).length := by
  have := findP_some h s _ _ _ _ (entered_find h s M)
  obtain ⟨_, p, h2, _⟩ := this
  exact (List.getElem?_eq_some_iff.1 h2).1
theorem run_entryStore90 {W : World} {m : Nat} {M : List PE} (h s : Int) (hm : MapAt W m (entered h s M)) (v : Value) :
    (Instr.entryStore 90 (.map (some m)) (i64 (entryAt h s M)) v).run Tryd.prog W = .ok () (W.putObj m (.map (ents (stored h s v M)).toArray (stored h s v M).length)) := by
  have hlt := entryAt_lt h s M
  have hf := findIdx_ents (entered h s M) 0 (entryAt h s M) hlt
  rw [Nat.zero_add] at hf
  unfold Instr.entryStore
  simp only [Sem.run_bind, MapKept.run_getObj_map hm, Result.andThen_ok]
  have ha : (asInt (i64 (entryAt h s M))).run Tryd.prog W = .ok ((entryAt h s M : Nat) : Int) W := by simp [asInt, asIntOf]
  rw [ha]
  simp only [Result.andThen_ok]
  have hf' : (ents (entered h s M)).toArray.findIdx? (fun e => (e.born : Int) == ((entryAt h s M : Nat) : Int)) = some (entryAt h s M) := by
    rw [List.findIdx?_toArray]; exact hf
  rw [hf']
  simp only [MapKept.run_setObj_map _ hm, World.putObj]
  have hl : (stored h s v M).length = (entered h s M).length := by simp [stored]
  rw [hl]
  have em : ((ents (entered h s M)).toArray.modify (entryAt h s M) fun e => { e with val := v }) = (ents (stored h s v M)).toArray := by
    obtain ⟨_, p, h2, h3, h4, _⟩ := findP_some h s _ _ _ _ (entered_find h s M)
    apply Array.ext_getElem?
    intro j
    rw [Array.getElem?_modify, List.getElem?_toArray, List.getElem?_toArray, ents_get, ents_get, stored, List.getElem?_set]
    split
    · rename_i hj
      subst hj
      simp only [Nat.sub_zero] at h2
      rw [h2]
      simp [ent, h3, h4]
    · rfl
  rw [em]
end Go.Proofs.YtkbmpkdflgimmaaDoor
