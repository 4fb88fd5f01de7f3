/- A law for regions that draw their order and end in operations that come after all others, one by one. -/
import Derived.Test.YtkbmpkdflgimmaaDoorS1
import Derived.StillTail
namespace Go.Proofs.YtkbmpkdflgimmaaDoor
open Go.RowKit

section
variable {P : Program} {l : List Oper} {Q : Exit → Act → World → Prop} {a0 : Act} {w0 : World} {rd : Nat → List Nat} {pure : Nat → Bool} {G : Nat → List Value → World → Prop} {R : World → World → Prop} {n : Nat}
theorem wpAny_more {md : Region.Mode} {ops : Array Oper} : ∀ (f : Nat) (L : Array Bool) (a : Act) (w : World), wpAny P md ops Q f L a w → wpAny P md ops Q (f + 1) L a w
  | 0, L, a, w, h => ⟨fun _ => h.2, fun i hi => by rw [h.1] at hi; cases hi⟩
  | f + 1, L, a, w, h => ⟨h.1, fun i hi => wpOp_mono (fun a' w' => wpAny_more f _ a' w') (h.2 i hi)⟩
theorem wpAny_le {md : Region.Mode} {ops : Array Oper} {f g : Nat} {L : Array Bool} {a : Act} {w : World} (hfg : f ≤ g) (h : wpAny P md ops Q f L a w) : wpAny P md ops Q g L a w := by
  induction g with
  | zero => obtain rfl : f = 0 := by omega
            exact h
  | succ g ih =>
    rcases Nat.lt_or_ge f (g + 1) with h1 | h1
    · exact wpAny_more g L a w (ih (by omega))
    · obtain rfl : f = g + 1 := by omega
      exact h
def rlNeeds (l : List Oper) (pure : Nat → Bool) (n i : Nat) : Bool := (List.range n).any fun k => k != i && !pure k && (match l[i]? with | none => true | some o => !(befores o).contains k)
/-- The first n operations are done, the others are not. -/
def headDone (n m : Nat) : Array Bool := Array.replicate n true ++ Array.replicate (m - n) false
structure RlInv (l : List Oper) (n : Nat) (a0 : Act) (w0 : World) (rd : Nat → List Nat) (G : Nat → List Value → World → Prop) (R : World → World → Prop) (L : Array Bool) (a : Act) (w : World) : Prop where
  size : L.size = l.length
  closed : ∀ (i : Nat) o, l[i]? = some o → L[i]? = some true → ∀ j ∈ befores o, L[j]? = some true
  tail : ∀ t, n ≤ t → t < l.length → L[t]? = some false
  frame : RgFrame l a0 a
  rel : R w0 w
  has : ∀ (i : Nat), i < n → L[i]? = some true → G i (valsOf rd i a) w
theorem RlInv.head {L : Array Bool} {a : Act} {w : World} (h : RlInv l n a0 w0 rd G R L a w) : HeadInv .any l.toArray n L := by
  refine ⟨by simpa using h.size, fun j oj hj hl e he hb => ?_, fun t ht htl => ?_⟩
  · have hj' : l[j]? = some oj := by simpa using hj
    have hjl : j < L.size := by rw [h.size]; exact (List.getElem?_eq_some_iff.1 hj').1
    have hl' : L[j]? = some true := by
      simp [Array.getD_eq_getD_getElem?, hjl] at hl ⊢
      exact hl
    have := h.closed j oj hj' hl' e.on (List.mem_map.2 ⟨e, List.mem_filter.2 ⟨by simpa using he, hb⟩, rfl⟩)
    simp [Array.getD_eq_getD_getElem?, this]
  · have := h.tail t ht (by simpa using htl)
    simp [Array.getD_eq_getD_getElem?, this]
theorem rl_step_inv {L : Array Bool} {a : Act} {w w' : World} {i : Nat} {o : Oper} {v : Value} (hck : rgCheck l rd = true) (hn : n ≤ l.length) (hRt : ∀ A B C, R A B → R B C → R A C)
    (hstab : ∀ i, i < n → rlNeeds l pure n i = true → ∀ vs w w', G i vs w → R w w' → G i vs w') (hI : RlInv l n a0 w0 rd G R L a w) (hin : i < n) (ho : l[i]? = some o) (hun : L[i]? = some false)
    (hbef : ∀ j ∈ befores o, L[j]? = some true) (hR : R w w') (hp : pure i = true → w' = w) (hG : G i (valsOf rd i (a.put o.dst v)) w') : RlInv l n a0 w0 rd G R (L.setIfInBounds i true) (a.put o.dst v) w' := by
  have hil : i < l.length := (List.getElem?_eq_some_iff.1 ho).1
  have hiL : i < L.size := by rw [hI.size]; exact hil
  have hset : ∀ j, L[j]? = some true → (L.setIfInBounds i true)[j]? = some true := fun j hj => by
    rw [Array.getElem?_setIfInBounds]
    split
    · simp
    · exact hj
  have hback : ∀ j, j ≠ i → (L.setIfInBounds i true)[j]? = some true → L[j]? = some true := fun j hne hj => by
    rw [Array.getElem?_setIfInBounds, if_neg (Ne.symm hne)] at hj
    exact hj
  refine ⟨by simpa using hI.size, fun k p hp' hk j hj => ?_, fun t ht htl => ?_, hI.frame.put (List.mem_of_getElem? ho) v, hRt _ _ _ hI.rel hR, fun k hk hkl => ?_⟩
  · by_cases hki : k = i
    · subst hki
      rw [ho] at hp'
      cases hp'
      exact hset j (hbef j hj)
    · exact hset j (hI.closed k p hp' (hback k hki hk) j hj)
  · rw [Array.getElem?_setIfInBounds, if_neg (by omega)]
    exact hI.tail t ht htl
  · by_cases hki : k = i
    · subst hki; exact hG
    · have hkL := hback k hki hkl
      have hold := hI.has k hk hkL
      have hkl' : k < l.length := by omega
      obtain ⟨p, hpk⟩ : ∃ p, l[k]? = some p := ⟨_, List.getElem?_eq_getElem hkl'⟩
      have hnb : ¬ i ∈ befores p := fun hm => by
        have := hI.closed k p hpk hkL i hm
        rw [hun] at this
        cases this
      have hc := List.all_eq_true.1 hck k (List.mem_range.2 hkl')
      simp only [hpk, Bool.and_eq_true] at hc
      have hc2 := List.all_eq_true.1 hc.2 i (List.mem_range.2 hil)
      simp only [ho] at hc2
      have hvals : valsOf rd k (a.put o.dst v) = valsOf rd k a := by
        unfold valsOf
        refine List.map_congr_left fun x hx => slotOf_put a o.dst v x (fun e => ?_)
        rw [e] at hc2
        simp at hc2
        rcases hc2 with h | h | h
        · exact hki h.symm
        · exact h hx
        · exact hnb h
      rw [hvals]
      cases hpi : pure i
      · refine hstab k hk ?_ _ _ _ hold hR
        unfold rlNeeds
        rw [List.any_eq_true]
        refine ⟨i, List.mem_range.2 hin, ?_⟩
        simp only [hpk]
        simp [hpi, hnb]
        exact fun e => hki e.symm
      · rw [hp hpi]; exact hold
theorem rl_any (hck : rgCheck l rd = true) (hn : n < l.length) (hsink : Region.sinkB .any l.toArray n = true) (hchain : Region.chainB .any l.toArray n = true) (hseq : Region.seqB .any l.toArray (l.length - n) n (headDone n l.length) = true)
    (hRr : ∀ A, R A A) (hRt : ∀ A B C, R A B → R B C → R A C) (hstab : ∀ i, i < n → rlNeeds l pure n i = true → ∀ vs w w', G i vs w → R w w' → G i vs w')
    (hstep : ∀ (i : Nat) o, i < n → l[i]? = some o → ∀ a w, R w0 w → RgFrame l a0 a → (∀ j ∈ befores o, G j (valsOf rd j a) w) → RgStep P l Q rd pure G R i o a w)
    (hend : ∀ a w, R w0 w → RgFrame l a0 a → (∀ i, i < n → G i (valsOf rd i a) w) → wpList P l.toArray Q (l.drop n) a w) :
    ∀ (fuel : Nat) (L : Array Bool) (a : Act) (w : World), unlisted n L + (l.length - n) ≤ fuel → RlInv l n a0 w0 rd G R L a w → wpAny P .any l.toArray Q fuel L a w := by
  have notyet : ∀ (L : Array Bool) (a : Act) (w : World), RlInv l n a0 w0 rd G R L a w → ∀ m, m ≤ n → (∀ i, i < m → L[i]? = some true) ∨ ∃ i, i < n ∧ L[i]? = some false ∧ i ∈ Region.ready .any l.toArray L := fun L a w hI => by
    intro m
    induction m with
    | zero => exact fun _ => .inl fun i h => by omega
    | succ m ih =>
      intro hm
      rcases ih (by omega) with hprev | h
      · have hlt : m < L.size := by rw [hI.size]; omega
        obtain ⟨o, ho⟩ : ∃ o, l[m]? = some o := ⟨_, List.getElem?_eq_getElem (by omega)⟩
        cases hb : L[m]'hlt with
        | true =>
          left
          intro i hi
          rcases Nat.lt_or_ge i m with h | h
          · exact hprev i h
          · obtain rfl : i = m := by omega
            rw [Array.getElem?_eq_getElem hlt, hb]
        | false =>
          right
          have hbf : L[m]? = some false := by rw [Array.getElem?_eq_getElem hlt, hb]
          refine ⟨m, by omega, hbf, ?_⟩
          have hc := List.all_eq_true.1 hck m (List.mem_range.2 (by omega))
          simp only [ho, Bool.and_eq_true] at hc
          rw [mem_ready]
          refine ⟨by simp [Array.getD_eq_getD_getElem?, hbf], o, by simpa using ho, fun e he hbd => ?_⟩
          have hm' : e.on ∈ befores o := List.mem_map.2 ⟨e, List.mem_filter.2 ⟨by simpa using he, hbd⟩, rfl⟩
          have := List.all_eq_true.1 hc.1 _ hm'
          have := hprev e.on (by simpa using this)
          simp [Array.getD_eq_getD_getElem?, this]
      · exact .inr h
  intro fuel
  induction fuel with
  | zero =>
    intro L a w hf hI
    omega
  | succ fuel ih =>
    intro L a w hf hI
    rcases notyet L a w hI n (Nat.le_refl _) with hall | ⟨i0, hi0, hun0, hr0⟩
    · have hL : L = headDone n l.length := by
        apply Array.ext_getElem?
        intro j
        unfold headDone
        rw [Array.getElem?_append]
        simp only [Array.size_replicate]
        split
        · rename_i hj
          rw [hall j hj]
          simp [hj]
        · rename_i hj
          rcases Nat.lt_or_ge j l.length with h | h
          · rw [hI.tail j (by omega) h]
            have : j - n < l.length - n := by omega
            simp [this]
          · rw [Array.getElem?_eq_none (by rw [hI.size]; exact h), Array.getElem?_eq_none (by simp; omega)]
      refine wpAny_le (f := (l.drop n).length) (by simp; omega) (wpAny_of_seq (l.drop n) n L a w (fun j => by simp) ?_ ?_)
      · rw [hL]; simpa using hseq
      · exact hend a w hI.rel hI.frame fun i hi => hI.has i hi (hall i hi)
    · refine ⟨fun h => (by rw [h] at hr0; cases hr0), fun i hi => ?_⟩
      have hun0' : L.getD i0 true = false := by simp [Array.getD_eq_getD_getElem?, hun0]
      have hin : i < n := by
        rcases Nat.lt_or_ge i n with h | h
        · exact h
        · exact absurd hi (tail_waits hsink hchain (by simpa using hn) hI.head _ i0 rfl hi0 hun0' i h)
      obtain ⟨h1, o, ho, hall⟩ := mem_ready.1 hi
      have ho' : l[i]? = some o := by simpa using ho
      have hil : i < l.length := (List.getElem?_eq_some_iff.1 ho').1
      have hun : L[i]? = some false := by
        have hlt : i < L.size := by rw [hI.size]; exact hil
        simp [Array.getD_eq_getD_getElem?, hlt] at h1 ⊢
        exact h1
      have hbef : ∀ j ∈ befores o, L[j]? = some true := fun j hj => by
        obtain ⟨e, he, rfl⟩ := List.mem_map.1 hj
        obtain ⟨he1, he2⟩ := List.mem_filter.1 he
        have := hall e (by simpa using he1) he2
        cases hx : L[e.on]? with
        | none => simp [Array.getD_eq_getD_getElem?, hx] at this
        | some b => simp [Array.getD_eq_getD_getElem?, hx] at this; rw [this]
      have hc := List.all_eq_true.1 hck i (List.mem_range.2 hil)
      simp only [ho', Bool.and_eq_true] at hc
      have hS := hstep i o hin ho' a w hI.rel hI.frame (fun j hj => hI.has j (by have := List.all_eq_true.1 hc.1 j hj; simp at this; omega) (hbef j hj))
      unfold RgStep at hS
      unfold wpOp
      simp only [ho]
      have next : ∀ v w', R w w' → (pure i = true → w' = w) → G i (valsOf rd i (a.put o.dst v)) w' → wpAny P .any l.toArray Q fuel (L.setIfInBounds i true) (a.put o.dst v) w' := fun v w' hR hp hG =>
        ih _ _ _ (by have := unlisted_set hin hun; omega) (rl_step_inv hck (Nat.le_of_lt hn) hRt hstab hI hin ho' hun hbef hR hp hG)
      split
      · rename_i hw
        rw [if_pos hw] at hS
        refine .inl (Oper.wp_mono (fun a' w' h => ?_) hS)
        obtain ⟨v, rfl, hR, hp, hG⟩ := h
        exact next v w' hR hp hG
      · rename_i hw
        rw [if_neg hw] at hS
        exact next undef w (hRr _) (fun _ => rfl) hS
/-- The law: each of the first n operations is shown once, whatever came before it but its own befores; the others follow in the text's order. -/
theorem rl_region {id : Nat} (n : Nat) (rd : Nat → List Nat) (pure : Nat → Bool) (G : Nat → List Value → World → Prop) (R : World → World → Prop) (hm : P.follows .mixedOrders = true) (hck : rgCheck l rd = true)
    (hn : decide (n < l.length) = true) (hsink : Region.sinkB .any l.toArray n = true) (hchain : Region.chainB .any l.toArray n = true) (hseq : Region.seqB .any l.toArray (l.length - n) n (headDone n l.length) = true)
    (hRd : ∀ n, R w0 { w0 with drawn := n }) (hRr : ∀ A, R A A) (hRt : ∀ A B C, R A B → R B C → R A C) (hstab : ∀ i, i < n → rlNeeds l pure n i = true → ∀ vs w w', G i vs w → R w w' → G i vs w')
    (hstep : ∀ (i : Nat) o, i < n → l[i]? = some o → ∀ a w, R w0 w → RgFrame l a0 a → (∀ j ∈ befores o, G j (valsOf rd j a) w) → RgStep P l Q rd pure G R i o a w)
    (hend : ∀ a w, R w0 w → RgFrame l a0 a → (∀ i, i < n → G i (valsOf rd i a) w) → wpList P l.toArray Q (l.drop n) a w) : (Code.region id l.toArray true).wp P Q a0 w0 := by
  have hn' := of_decide_eq_true hn
  refine wp_region_any hm (rl_any (w0 := w0) (a0 := a0) hck hn' hsink hchain hseq hRr hRt hstab hstep hend _ _ _ _ ?_ ?_)
  · unfold unlisted
    have : (List.range n).countP (fun i => (Array.replicate l.toArray.size false)[i]? == some false) ≤ n := Nat.le_trans List.countP_le_length (by simp)
    have h2 : l.toArray.size = l.length := by simp
    omega
  · refine ⟨by simp, fun i o ho h => ?_, fun t _ ht => by simp [ht], ⟨rfl, rfl, fun _ _ => rfl⟩, hRd _, fun i hi h => ?_⟩
    · rw [Array.getElem?_replicate] at h
      split at h <;> cases h
    · rw [Array.getElem?_replicate] at h
      split at h <;> cases h
end
end Go.Proofs.YtkbmpkdflgimmaaDoor
