/- The law for regions that draw their order, once more: each operation says for itself what it does to the world (S i). -/
import Derived.Test.YtkbmpkdflgimmaaDoorRG
namespace Go.Proofs.YtkbmpkdflgimmaaDoor
open Go.RowKit

section
variable {P : Program} {l : List Oper} {Q : Exit → Act → World → Prop} {a0 : Act} {w0 : World} {rd : Nat → List Nat} {pure : Nat → Bool} {G : Nat → List Value → World → Prop} {R : World → World → Prop} {S : Nat → World → World → Prop} {us : Nat → List Nat} {kp : Nat → Bool}
/-- Operation i may come after k, touches the world, and k's fact is still wanted. -/
def rsNeeds (l : List Oper) (pure : Nat → Bool) (us : Nat → List Nat) (kp : Nat → Bool) (k i : Nat) : Bool :=
  k != i && !pure i && (match l[k]?, l[i]? with | some o, some p => !(befores o).contains i && (kp k || (List.range l.length).any fun j => (us j).contains k && j != i && !(befores p).contains j) | _, _ => true)
def rsUses (l : List Oper) (us : Nat → List Nat) : Bool := (List.range l.length).all fun i => match l[i]? with | none => true | some o => (us i).all fun j => (befores o).contains j
structure RsInv (l : List Oper) (a0 : Act) (w0 : World) (rd : Nat → List Nat) (G : Nat → List Value → World → Prop) (R : World → World → Prop) (us : Nat → List Nat) (kp : Nat → Bool) (L : Array Bool) (a : Act) (w : World) : Prop where
  size : L.size = l.length
  closed : ∀ (i : Nat) o, l[i]? = some o → L[i]? = some true → ∀ j ∈ befores o, L[j]? = some true
  frame : RgFrame l a0 a
  rel : R w0 w
  has : ∀ (i : Nat), i < l.length → L[i]? = some true → (kp i = true ∨ ∃ j, i ∈ us j ∧ j < l.length ∧ L[j]? = some false) → G i (valsOf rd i a) w
/-- Operation i does what G says of it. -/
def RsStep (P : Program) (l : List Oper) (Q : Exit → Act → World → Prop) (rd : Nat → List Nat) (pure : Nat → Bool) (G : Nat → List Value → World → Prop) (R : World → World → Prop) (S : Nat → World → World → Prop) (i : Nat) (o : Oper) (a : Act) (w : World) : Prop :=
  if Region.wanted o (yielded l.toArray a.tmps) = true then o.wp P a w (fun a' w' => ∃ v, a' = a.put o.dst v ∧ R w w' ∧ (pure i = false → S i w w') ∧ (pure i = true → w' = w) ∧ G i (valsOf rd i a') w') Q
  else G i (valsOf rd i (a.put o.dst undef)) w
theorem rs_step_inv {L : Array Bool} {a : Act} {w w' : World} {i : Nat} {o : Oper} {v : Value} (hck : rgCheck l rd = true) (hRt : ∀ A B C, R A B → R B C → R A C)
    (hstab : ∀ k i, k < l.length → i < l.length → rsNeeds l pure us kp k i = true → ∀ vs w w', G k vs w → R w w' → S i w w' → G k vs w') (hI : RsInv l a0 w0 rd G R us kp L a w) (ho : l[i]? = some o) (hun : L[i]? = some false)
    (hbef : ∀ j ∈ befores o, L[j]? = some true) (hR : R w w') (hSi : pure i = false → S i w w') (hp : pure i = true → w' = w) (hG : G i (valsOf rd i (a.put o.dst v)) w') : RsInv l a0 w0 rd G R us kp (L.setIfInBounds i true) (a.put o.dst v) w' := by
  have hil : i < l.length := (List.getElem?_eq_some_iff.1 ho).1
  have hiL : i < L.size := by rw [hI.size]; exact hil
  have hset : ∀ j, L[j]? = some true → (L.setIfInBounds i true)[j]? = some true := fun j hj => by
    rw [Array.getElem?_setIfInBounds]
    split
    · simp
    · exact hj
  have hback : ∀ j, j ≠ i → (L.setIfInBounds i true)[j]? = some true → L[j]? = some true := fun j hne hj => by
    rw [Array.getElem?_setIfInBounds, if_neg (Ne.symm hne)] at hj
    exact hj
  refine ⟨by simpa using hI.size, fun k p hp' hk j hj => ?_, hI.frame.put (List.mem_of_getElem? ho) v, hRt _ _ _ hI.rel hR, fun k hk hkl hlive => ?_⟩
  · by_cases hki : k = i
    · subst hki
      rw [ho] at hp'
      cases hp'
      exact hset j (hbef j hj)
    · exact hset j (hI.closed k p hp' (hback k hki hk) j hj)
  · by_cases hki : k = i
    · subst hki; exact hG
    · have hkL := hback k hki hkl
      have hlive0 : kp k = true ∨ ∃ j, k ∈ us j ∧ j < l.length ∧ L[j]? = some false ∧ j ≠ i := by
        rcases hlive with h | ⟨j, h1, h2, h3⟩
        · exact .inl h
        · have hji : j ≠ i := fun e => by
            subst e
            rw [Array.getElem?_setIfInBounds, if_pos rfl, if_pos hiL] at h3
            cases h3
          rw [Array.getElem?_setIfInBounds, if_neg (Ne.symm hji)] at h3
          exact .inr ⟨j, h1, h2, h3, hji⟩
      have hold := hI.has k hk hkL (hlive0.imp id fun ⟨j, h1, h2, h3, _⟩ => ⟨j, h1, h2, h3⟩)
      obtain ⟨p, hpk⟩ : ∃ p, l[k]? = some p := ⟨_, List.getElem?_eq_getElem hk⟩
      have hnb : ¬ i ∈ befores p := fun hm => by
        have := hI.closed k p hpk hkL i hm
        rw [hun] at this
        cases this
      have hc := List.all_eq_true.1 hck k (List.mem_range.2 hk)
      simp only [hpk, Bool.and_eq_true] at hc
      have hc2 := List.all_eq_true.1 hc.2 i (List.mem_range.2 hil)
      simp only [ho] at hc2
      have hvals : valsOf rd k (a.put o.dst v) = valsOf rd k a := by
        unfold valsOf
        refine List.map_congr_left fun x hx => slotOf_put a o.dst v x (fun e => ?_)
        rw [e] at hc2
        simp at hc2
        rcases hc2 with h | h | h
        · exact hki h.symm
        · exact h hx
        · exact hnb h
      rw [hvals]
      cases hpi : pure i
      · refine hstab k i hk hil ?_ _ _ _ hold hR (hSi hpi)
        unfold rsNeeds
        simp only [hpk, ho]
        have hki2 : (k != i) = true := by simpa using hki
        have hnb2 : (befores p).contains i = false := by simpa using hnb
        rw [hki2, hpi, hnb2]
        simp only [Bool.not_false, Bool.and_self, Bool.true_and]
        rcases hlive0 with h | ⟨j, h1, h2, h3, h4⟩
        · rw [h]; rfl
        · rw [Bool.or_eq_true]
          right
          rw [List.any_eq_true]
          refine ⟨j, List.mem_range.2 h2, ?_⟩
          have hj1 : (us j).contains k = true := by simpa using h1
          have hj2 : (j != i) = true := by simpa using h4
          have hj3 : (befores o).contains j = false := by
            cases hc : (befores o).contains j
            · rfl
            · have := hbef j (by simpa using hc)
              rw [h3] at this
              cases this
          rw [hj1, hj2, hj3]
          rfl
      · rw [hp hpi]; exact hold
theorem rs_any (hck : rgCheck l rd = true) (hus : rsUses l us = true) (hRr : ∀ A, R A A) (hSr : ∀ i A, S i A A) (hRt : ∀ A B C, R A B → R B C → R A C) (hstab : ∀ k i, k < l.length → i < l.length → rsNeeds l pure us kp k i = true → ∀ vs w w', G k vs w → R w w' → S i w w' → G k vs w')
    (hstep : ∀ (i : Nat) o, l[i]? = some o → ∀ a w, R w0 w → RgFrame l a0 a → (∀ j ∈ us i, G j (valsOf rd j a) w) → RsStep P l Q rd pure G R S i o a w)
    (hend : ∀ a w, R w0 w → RgFrame l a0 a → (∀ i, i < l.length → kp i = true → G i (valsOf rd i a) w) → Q .normal a w) :
    ∀ (fuel : Nat) (L : Array Bool) (a : Act) (w : World), unlisted l.length L ≤ fuel → RsInv l a0 w0 rd G R us kp L a w → wpAny P .any l.toArray Q fuel L a w := by
  have done : ∀ (L : Array Bool) (a : Act) (w : World), RsInv l a0 w0 rd G R us kp L a w → Region.ready .any l.toArray L = [] → Q .normal a w := fun L a w hI hr => by
    have hall : ∀ n, n ≤ l.length → ∀ i, i < n → L[i]? = some true := by
      intro n
      induction n with
      | zero => intro _ i h; omega
      | succ n ih =>
        intro hn i hi
        have hprev := ih (by omega)
        rcases Nat.lt_or_ge i n with h | h
        · exact hprev i h
        · obtain rfl : i = n := by omega
          have hlt : i < L.size := by rw [hI.size]; omega
          obtain ⟨o, ho⟩ : ∃ o, l[i]? = some o := ⟨_, List.getElem?_eq_getElem (by omega)⟩
          cases hb : L[i]? with
          | none => rw [Array.getElem?_eq_none_iff] at hb; omega
          | some b =>
            cases b with
            | true => rfl
            | false =>
              exfalso
              have hc := List.all_eq_true.1 hck i (List.mem_range.2 (by omega))
              simp only [ho, Bool.and_eq_true] at hc
              have : i ∈ Region.ready .any l.toArray L := by
                rw [mem_ready]
                refine ⟨by simp [Array.getD_eq_getD_getElem?, hb], o, by simpa using ho, fun e he hbd => ?_⟩
                have hm : e.on ∈ befores o := List.mem_map.2 ⟨e, List.mem_filter.2 ⟨by simpa using he, hbd⟩, rfl⟩
                have := List.all_eq_true.1 hc.1 _ hm
                have := hprev e.on (by simpa using this)
                simp [Array.getD_eq_getD_getElem?, this]
              rw [hr] at this
              cases this
    exact hend a w hI.rel hI.frame fun i hi hk => hI.has i hi (hall l.length (Nat.le_refl _) i hi) (.inl hk)
  intro fuel
  induction fuel with
  | zero =>
    intro L a w hf hI
    have hr : Region.ready .any l.toArray L = [] := by
      cases hr : Region.ready .any l.toArray L with
      | nil => rfl
      | cons i rest =>
        have hi : i ∈ Region.ready .any l.toArray L := by rw [hr]; exact List.mem_cons_self ..
        obtain ⟨h1, o, ho, _⟩ := mem_ready.1 hi
        have hil : i < l.length := by
          have := (Array.getElem?_eq_some_iff.1 ho).1
          simpa using this
        have hf' : L[i]? = some false := by
          have hlt : i < L.size := by rw [hI.size]; exact hil
          simp [Array.getD_eq_getD_getElem?, hlt] at h1 ⊢
          exact h1
        have := unlisted_set hil hf'
        omega
    exact ⟨hr, done L a w hI hr⟩
  | succ fuel ih =>
    intro L a w hf hI
    refine ⟨done L a w hI, fun i hi => ?_⟩
    obtain ⟨h1, o, ho, hall⟩ := mem_ready.1 hi
    have ho' : l[i]? = some o := by simpa using ho
    have hil : i < l.length := (List.getElem?_eq_some_iff.1 ho').1
    have hun : L[i]? = some false := by
      have hlt : i < L.size := by rw [hI.size]; exact hil
      simp [Array.getD_eq_getD_getElem?, hlt] at h1 ⊢
      exact h1
    have hbef : ∀ j ∈ befores o, L[j]? = some true := fun j hj => by
      obtain ⟨e, he, rfl⟩ := List.mem_map.1 hj
      obtain ⟨he1, he2⟩ := List.mem_filter.1 he
      have := hall e (by simpa using he1) he2
      cases hx : L[e.on]? with
      | none => simp [Array.getD_eq_getD_getElem?, hx] at this
      | some b => simp [Array.getD_eq_getD_getElem?, hx] at this; rw [this]
    have hc := List.all_eq_true.1 hck i (List.mem_range.2 hil)
    simp only [ho', Bool.and_eq_true] at hc
    have hu := List.all_eq_true.1 hus i (List.mem_range.2 hil)
    simp only [ho'] at hu
    have hS := hstep i o ho' a w hI.rel hI.frame (fun j hj => by
      have hjb : j ∈ befores o := by simpa using List.all_eq_true.1 hu j hj
      exact hI.has j (by have := List.all_eq_true.1 hc.1 j hjb; simp at this; omega) (hbef j hjb) (.inr ⟨i, hj, hil, hun⟩))
    unfold RsStep at hS
    unfold wpOp
    simp only [ho]
    have next : ∀ v w', R w w' → (pure i = false → S i w w') → (pure i = true → w' = w) → G i (valsOf rd i (a.put o.dst v)) w' → wpAny P .any l.toArray Q fuel (L.setIfInBounds i true) (a.put o.dst v) w' := fun v w' hR hSi hp hG =>
      ih _ _ _ (by have := unlisted_set hil hun; omega) (rs_step_inv hck hRt hstab hI ho' hun hbef hR hSi hp hG)
    split
    · rename_i hw
      rw [if_pos hw] at hS
      refine .inl (Oper.wp_mono (fun a' w' h => ?_) hS)
      obtain ⟨v, rfl, hR, hSi, hp, hG⟩ := h
      exact next v w' hR hSi hp hG
    · rename_i hw
      rw [if_neg hw] at hS
      exact next undef w (hRr _) (fun _ => hSr _ _) (fun _ => rfl) hS
/-- The law: each operation is shown once, whatever came before it but its own befores. -/
theorem rs_region {id : Nat} (rd : Nat → List Nat) (pure : Nat → Bool) (us : Nat → List Nat) (kp : Nat → Bool) (G : Nat → List Value → World → Prop) (R : World → World → Prop) (S : Nat → World → World → Prop) (hm : P.follows .mixedOrders = true) (hck : rgCheck l rd = true) (hus : rsUses l us = true)
    (hRd : ∀ n, R w0 { w0 with drawn := n }) (hRr : ∀ A, R A A) (hSr : ∀ i A, S i A A) (hRt : ∀ A B C, R A B → R B C → R A C) (hstab : ∀ k i, k < l.length → i < l.length → rsNeeds l pure us kp k i = true → ∀ vs w w', G k vs w → R w w' → S i w w' → G k vs w')
    (hstep : ∀ (i : Nat) o, l[i]? = some o → ∀ a w, R w0 w → RgFrame l a0 a → (∀ j ∈ us i, G j (valsOf rd j a) w) → RsStep P l Q rd pure G R S i o a w)
    (hend : ∀ a w, R w0 w → RgFrame l a0 a → (∀ i, i < l.length → kp i = true → G i (valsOf rd i a) w) → Q .normal a w) : (Code.region id l.toArray true).wp P Q a0 w0 := by
  refine wp_region_any hm (rs_any (w0 := w0) (a0 := a0) hck hus hRr hSr hRt hstab hstep hend _ _ _ _ ?_ ?_)
  · unfold unlisted
    refine Nat.le_trans List.countP_le_length ?_
    simp
  · refine ⟨by simp, fun i o ho h => ?_, ⟨rfl, rfl, fun _ _ => rfl⟩, hRd _, fun i hi h _ => ?_⟩
    · rw [Array.getElem?_replicate] at h
      split at h <;> cases h
    · rw [Array.getElem?_replicate] at h
      split at h <;> cases h
end
end Go.Proofs.YtkbmpkdflgimmaaDoor
