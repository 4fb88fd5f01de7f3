/- RG2, Grow, With, Pure6, Pure7, Help4, RG3, Without in one text. (Printed by merge.py.) -/
import Derived.Test.YtkbmpkdflgimmaaDoorS1
import Derived.Test.YtkbmpkdflgimmaaDoorS8
import Derived.Deep.QuietTactic
import Derived.BigQuiet
/- The law for regions that draw their order, once more: each operation says for itself what it does to the world (S i). -/
namespace Go.Proofs.YtkbmpkdflgimmaaDoor
open Go.RowKit

section
variable {P : Program} {l : List Oper} {Q : Exit → Act → World → Prop} {a0 : Act} {w0 : World} {rd : Nat → List Nat} {pure : Nat → Bool} {G : Nat → List Value → World → Prop} {R : World → World → Prop} {S : Nat → World → World → Prop} {us : Nat → List Nat} {kp : Nat → Bool}
/-- Operation i may come after k, touches the world, and k's fact is still wanted. -/
def rsNeeds (l : List Oper) (pure : Nat → Bool) (us : Nat → List Nat) (kp : Nat → Bool) (k i : Nat) : Bool :=
  k != i && !pure i && (match l[k]?, l[i]? with | some o, some p => !(befores o).contains i && (kp k || (List.range l.length).any fun j => (us j).contains k && j != i && !(befores p).contains j) | _, _ => true)
def rsUses (l : List Oper) (us : Nat → List Nat) : Bool := (List.range l.length).all fun i => match l[i]? with | none => true | some o => (us i).all fun j => (befores o).contains j
structure RsInv (l : List Oper) (a0 : Act) (w0 : World) (rd : Nat → List Nat) (G : Nat → List Value → World → Prop) (R : World → World → Prop) (us : Nat → List Nat) (kp : Nat → Bool) (L : Array Bool) (a : Act) (w : World) : Prop where
  size : L.size = l.length
  closed : ∀ (i : Nat) o, l[i]? = some o → L[i]? = some true → ∀ j ∈ befores o, L[j]? = some true
  frame : RgFrame l a0 a
  rel : R w0 w
  has : ∀ (i : Nat), i < l.length → L[i]? = some true → (kp i = true ∨ ∃ j, i ∈ us j ∧ j < l.length ∧ L[j]? = some false) → G i (valsOf rd i a) w
/-- Operation i does what G says of it. -/
def RsStep (P : Program) (l : List Oper) (Q : Exit → Act → World → Prop) (rd : Nat → List Nat) (pure : Nat → Bool) (G : Nat → List Value → World → Prop) (R : World → World → Prop) (S : Nat → World → World → Prop) (i : Nat) (o : Oper) (a : Act) (w : World) : Prop :=
  if Region.wanted o (yielded l.toArray a.tmps) = true then o.wp P a w (fun a' w' => ∃ v, a' = a.put o.dst v ∧ R w w' ∧ (pure i = false → S i w w') ∧ (pure i = true → w' = w) ∧ G i (valsOf rd i a') w') Q
  else G i (valsOf rd i (a.put o.dst undef)) w
theorem rs_step_inv {L : Array Bool} {a : Act} {w w' : World} {i : Nat} {o : Oper} {v : Value} (hck : rgCheck l rd = true) (hRt : ∀ A B C, R A B → R B C → R A C)
    (hstab : ∀ k i, k < l.length → i < l.length → rsNeeds l pure us kp k i = true → ∀ vs w w', G k vs w → R w w' → S i w w' → G k vs w') (hI : RsInv l a0 w0 rd G R us kp L a w) (ho : l[i]? = some o) (hun : L[i]? = some false)
    (hbef : ∀ j ∈ befores o, L[j]? = some true) (hR : R w w') (hSi : pure i = false → S i w w') (hp : pure i = true → w' = w) (hG : G i (valsOf rd i (a.put o.dst v)) w') : RsInv l a0 w0 rd G R us kp (L.setIfInBounds i true) (a.put o.dst v) w' := by
  have hil : i < l.length := (List.getElem?_eq_some_iff.1 ho).1
  have hiL : i < L.size := by rw [hI.size]; exact hil
  have hset : ∀ j, L[j]? = some true → (L.setIfInBounds i true)[j]? = some true := fun j hj => by
    rw [Array.getElem?_setIfInBounds]
    split
    · simp
    · exact hj
  have hback : ∀ j, j ≠ i → (L.setIfInBounds i true)[j]? = some true → L[j]? = some true := fun j hne hj => by
    rw [Array.getElem?_setIfInBounds, if_neg (Ne.symm hne)] at hj
    exact hj
  refine ⟨by simpa using hI.size, fun k p hp' hk j hj => ?_, hI.frame.put (List.mem_of_getElem? ho) v, hRt _ _ _ hI.rel hR, fun k hk hkl hlive => ?_⟩
  · by_cases hki : k = i
    · subst hki
      rw [ho] at hp'
      cases hp'
      exact hset j (hbef j hj)
    · exact hset j (hI.closed k p hp' (hback k hki hk) j hj)
  · by_cases hki : k = i
    · subst hki; exact hG
    · have hkL := hback k hki hkl
      have hlive0 : kp k = true ∨ ∃ j, k ∈ us j ∧ j < l.length ∧ L[j]? = some false ∧ j ≠ i := by
        rcases hlive with h | ⟨j, h1, h2, h3⟩
        · exact .inl h
        · have hji : j ≠ i := fun e => by
            subst e
            rw [Array.getElem?_setIfInBounds, if_pos rfl, if_pos hiL] at h3
            cases h3
          rw [Array.getElem?_setIfInBounds, if_neg (Ne.symm hji)] at h3
          exact .inr ⟨j, h1, h2, h3, hji⟩
      have hold := hI.has k hk hkL (hlive0.imp id fun ⟨j, h1, h2, h3, _⟩ => ⟨j, h1, h2, h3⟩)
      obtain ⟨p, hpk⟩ : ∃ p, l[k]? = some p := ⟨_, List.getElem?_eq_getElem hk⟩
      have hnb : ¬ i ∈ befores p := fun hm => by
        have := hI.closed k p hpk hkL i hm
        rw [hun] at this
        cases this
      have hc := List.all_eq_true.1 hck k (List.mem_range.2 hk)
      simp only [hpk, Bool.and_eq_true] at hc
      have hc2 := List.all_eq_true.1 hc.2 i (List.mem_range.2 hil)
      simp only [ho] at hc2
      have hvals : valsOf rd k (a.put o.dst v) = valsOf rd k a := by
        unfold valsOf
        refine List.map_congr_left fun x hx => slotOf_put a o.dst v x (fun e => ?_)
        rw [e] at hc2
        simp at hc2
        rcases hc2 with h | h | h
        · exact hki h.symm
        · exact h hx
        · exact hnb h
      rw [hvals]
      cases hpi : pure i
      · refine hstab k i hk hil ?_ _ _ _ hold hR (hSi hpi)
        unfold rsNeeds
        simp only [hpk, ho]
        have hki2 : (k != i) = true := by simpa using hki
        have hnb2 : (befores p).contains i = false := by simpa using hnb
        rw [hki2, hpi, hnb2]
        simp only [Bool.not_false, Bool.and_self, Bool.true_and]
        rcases hlive0 with h | ⟨j, h1, h2, h3, h4⟩
        · rw [h]; rfl
        · rw [Bool.or_eq_true]
          right
          rw [List.any_eq_true]
          refine ⟨j, List.mem_range.2 h2, ?_⟩
          have hj1 : (us j).contains k = true := by simpa using h1
          have hj2 : (j != i) = true := by simpa using h4
          have hj3 : (befores o).contains j = false := by
            cases hc : (befores o).contains j
            · rfl
            · have := hbef j (by simpa using hc)
              rw [h3] at this
              cases this
          rw [hj1, hj2, hj3]
          rfl
      · rw [hp hpi]; exact hold
theorem rs_any (hck : rgCheck l rd = true) (hus : rsUses l us = true) (hRr : ∀ A, R A A) (hSr : ∀ i A, S i A A) (hRt : ∀ A B C, R A B → R B C → R A C) (hstab : ∀ k i, k < l.length → i < l.length → rsNeeds l pure us kp k i = true → ∀ vs w w', G k vs w → R w w' → S i w w' → G k vs w')
    (hstep : ∀ (i : Nat) o, l[i]? = some o → ∀ a w, R w0 w → RgFrame l a0 a → (∀ j ∈ us i, G j (valsOf rd j a) w) → RsStep P l Q rd pure G R S i o a w)
    (hend : ∀ a w, R w0 w → RgFrame l a0 a → (∀ i, i < l.length → kp i = true → G i (valsOf rd i a) w) → Q .normal a w) :
    ∀ (fuel : Nat) (L : Array Bool) (a : Act) (w : World), unlisted l.length L ≤ fuel → RsInv l a0 w0 rd G R us kp L a w → wpAny P .any l.toArray Q fuel L a w := by
  have done : ∀ (L : Array Bool) (a : Act) (w : World), RsInv l a0 w0 rd G R us kp L a w → Region.ready .any l.toArray L = [] → Q .normal a w := fun L a w hI hr => by
    have hall : ∀ n, n ≤ l.length → ∀ i, i < n → L[i]? = some true := by
      intro n
      induction n with
      | zero => intro _ i h; omega
      | succ n ih =>
        intro hn i hi
        have hprev := ih (by omega)
        rcases Nat.lt_or_ge i n with h | h
        · exact hprev i h
        · obtain rfl : i = n := by omega
          have hlt : i < L.size := by rw [hI.size]; omega
          obtain ⟨o, ho⟩ : ∃ o, l[i]? = some o := ⟨_, List.getElem?_eq_getElem (by omega)⟩
          cases hb : L[i]? with
          | none => rw [Array.getElem?_eq_none_iff] at hb; omega
          | some b =>
            cases b with
            | true => rfl
            | false =>
              exfalso
              have hc := List.all_eq_true.1 hck i (List.mem_range.2 (by omega))
              simp only [ho, Bool.and_eq_true] at hc
              have : i ∈ Region.ready .any l.toArray L := by
                rw [mem_ready]
                refine ⟨by simp [Array.getD_eq_getD_getElem?, hb], o, by simpa using ho, fun e he hbd => ?_⟩
                have hm : e.on ∈ befores o := List.mem_map.2 ⟨e, List.mem_filter.2 ⟨by simpa using he, hbd⟩, rfl⟩
                have := List.all_eq_true.1 hc.1 _ hm
                have := hprev e.on (by simpa using this)
                simp [Array.getD_eq_getD_getElem?, this]
              rw [hr] at this
              cases this
    exact hend a w hI.rel hI.frame fun i hi hk => hI.has i hi (hall l.length (Nat.le_refl _) i hi) (.inl hk)
  intro fuel
  induction fuel with
  | zero =>
    intro L a w hf hI
    have hr : Region.ready .any l.toArray L = [] := by
      cases hr : Region.ready .any l.toArray L with
      | nil => rfl
      | cons i rest =>
        have hi : i ∈ Region.ready .any l.toArray L := by rw [hr]; exact List.mem_cons_self ..
        obtain ⟨h1, o, ho, _⟩ := mem_ready.1 hi
        have hil : i < l.length := by
          have := (Array.getElem?_eq_some_iff.1 ho).1
          simpa using this
        have hf' : L[i]? = some false := by
          have hlt : i < L.size := by rw [hI.size]; exact hil
          simp [Array.getD_eq_getD_getElem?, hlt] at h1 ⊢
          exact h1
        have := unlisted_set hil hf'
        omega
    exact ⟨hr, done L a w hI hr⟩
  | succ fuel ih =>
    intro L a w hf hI
    refine ⟨done L a w hI, fun i hi => ?_⟩
    obtain ⟨h1, o, ho, hall⟩ := mem_ready.1 hi
    have ho' : l[i]? = some o := by simpa using ho
    have hil : i < l.length := (List.getElem?_eq_some_iff.1 ho').1
    have hun : L[i]? = some false := by
      have hlt : i < L.size := by rw [hI.size]; exact hil
      simp [Array.getD_eq_getD_getElem?, hlt] at h1 ⊢
      exact h1
    have hbef : ∀ j ∈ befores o, L[j]? = some true := fun j hj => by
      obtain ⟨e, he, rfl⟩ := List.mem_map.1 hj
      obtain ⟨he1, he2⟩ := List.mem_filter.1 he
      have := hall e (by simpa using he1) he2
      cases hx : L[e.on]? with
      | none => simp [Array.getD_eq_getD_getElem?, hx] at this
      | some b => simp [Array.getD_eq_getD_getElem?, hx] at this; rw [this]
    have hc := List.all_eq_true.1 hck i (List.mem_range.2 hil)
    simp only [ho', Bool.and_eq_true] at hc
    have hu := List.all_eq_true.1 hus i (List.mem_range.2 hil)
    simp only [ho'] at hu
    have hS := hstep i o ho' a w hI.rel hI.frame (fun j hj => by
      have hjb : j ∈ befores o := by simpa using List.all_eq_true.1 hu j hj
      exact hI.has j (by have := List.all_eq_true.1 hc.1 j hjb; simp at this; omega) (hbef j hjb) (.inr ⟨i, hj, hil, hun⟩))
    unfold RsStep at hS
    unfold wpOp
    simp only [ho]
    have next : ∀ v w', R w w' → (pure i = false → S i w w') → (pure i = true → w' = w) → G i (valsOf rd i (a.put o.dst v)) w' → wpAny P .any l.toArray Q fuel (L.setIfInBounds i true) (a.put o.dst v) w' := fun v w' hR hSi hp hG =>
      ih _ _ _ (by have := unlisted_set hil hun; omega) (rs_step_inv hck hRt hstab hI ho' hun hbef hR hSi hp hG)
    split
    · rename_i hw
      rw [if_pos hw] at hS
      refine .inl (Oper.wp_mono (fun a' w' h => ?_) hS)
      obtain ⟨v, rfl, hR, hSi, hp, hG⟩ := h
      exact next v w' hR hSi hp hG
    · rename_i hw
      rw [if_neg hw] at hS
      exact next undef w (hRr _) (fun _ => hSr _ _) (fun _ => rfl) hS
/-- The law: each operation is shown once, whatever came before it but its own befores. -/
theorem rs_region {id : Nat} (rd : Nat → List Nat) (pure : Nat → Bool) (us : Nat → List Nat) (kp : Nat → Bool) (G : Nat → List Value → World → Prop) (R : World → World → Prop) (S : Nat → World → World → Prop) (hm : P.follows .mixedOrders = true) (hck : rgCheck l rd = true) (hus : rsUses l us = true)
    (hRd : ∀ n, R w0 { w0 with drawn := n }) (hRr : ∀ A, R A A) (hSr : ∀ i A, S i A A) (hRt : ∀ A B C, R A B → R B C → R A C) (hstab : ∀ k i, k < l.length → i < l.length → rsNeeds l pure us kp k i = true → ∀ vs w w', G k vs w → R w w' → S i w w' → G k vs w')
    (hstep : ∀ (i : Nat) o, l[i]? = some o → ∀ a w, R w0 w → RgFrame l a0 a → (∀ j ∈ us i, G j (valsOf rd j a) w) → RsStep P l Q rd pure G R S i o a w)
    (hend : ∀ a w, R w0 w → RgFrame l a0 a → (∀ i, i < l.length → kp i = true → G i (valsOf rd i a) w) → Q .normal a w) : (Code.region id l.toArray true).wp P Q a0 w0 := by
  refine wp_region_any hm (rs_any (w0 := w0) (a0 := a0) hck hus hRr hSr hRt hstab hstep hend _ _ _ _ ?_ ?_)
  · unfold unlisted
    refine Nat.le_trans List.countP_le_length ?_
    simp
  · refine ⟨by simp, fun i o ho h => ?_, ⟨rfl, rfl, fun _ _ => rfl⟩, hRd _, fun i hi h _ => ?_⟩
    · rw [Array.getElem?_replicate] at h
      split at h <;> cases h
    · rw [Array.getElem?_replicate] at h
      split at h <;> cases h
end
end Go.Proofs.YtkbmpkdflgimmaaDoor
/- Slices of soundings and of spans that a call makes itself; steps of regions that append to them. -/
namespace Go.Proofs.YtkbmpkdflgimmaaDoor
open Go.RowKit Go.Shelf

section
variable {P : Program} {l : List Oper} {Q : Exit → Act → World → Prop} {rd : Nat → List Nat} {pure : Nat → Bool} {G : Nat → List Value → World → Prop} {R : World → World → Prop} {S : Nat → World → World → Prop} {i : Nat} {o : Oper} {a : Act} {w : World}
theorem rsw_val (hw : Region.wanted o (yielded l.toArray a.tmps) = true) (v : Value) (h : (execOp a.eval o).run P w = .ok (.value v) w) (hR : R w w) (hS : S i w w) (hG : G i (valsOf rd i (a.put o.dst v)) w) : RsStep P l Q rd pure G R S i o a w := by
  unfold RsStep
  rw [if_pos hw]
  unfold Oper.wp
  rw [h]
  exact ⟨v, rfl, hR, fun _ => hS, fun _ => rfl, hG⟩
theorem rsw_wp (hw : Region.wanted o (yielded l.toArray a.tmps) = true) (hp : pure i = false) (h : o.wp P a w (fun a' w' => ∃ v, a' = a.put o.dst v ∧ R w w' ∧ S i w w' ∧ G i (valsOf rd i a') w') Q) : RsStep P l Q rd pure G R S i o a w := by
  unfold RsStep
  rw [if_pos hw]
  refine Oper.wp_mono ?_ h
  rintro a' w' ⟨v, h1, h2, h3, h4⟩
  exact ⟨v, h1, h2, fun _ => h3, (fun h => by rw [hp] at h; cases h), h4⟩
theorem rsw_call (hw : Region.wanted o (yielded l.toArray a.tmps) = true) (f : FuncId) (args : Array Value) (h : (execOp a.eval o).run P w = .ok (.enter f args) w) (hp : pure i = false)
    (hc : Calls P f args w fun e w' => ∃ v, e = .returned v ∧ R w w' ∧ S i w w' ∧ G i (valsOf rd i (a.put o.dst v)) w') : RsStep P l Q rd pure G R S i o a w := by
  unfold RsStep
  rw [if_pos hw]
  unfold Oper.wp
  rw [h]
  refine Calls.mono hc ?_
  rintro e w' ⟨v, rfl, hR, hS, hG⟩
  exact ⟨v, rfl, hR, fun _ => hS, (fun h => by rw [hp] at h; cases h), hG⟩
end
theorem set_book' {W : World} {g : Nat} {cs : Array Value} (k : Nat) (h : W.heap[g]? = some (.cells cs 30 (0, 0))) (v : Value) : (W.setCell ⟨g, k, none⟩ v).heap[g]? = some (.cells (cs.setIfInBounds k v) 30 (0, 0)) := by
  simp [World.setCell, Array.getElem?_modify, h]
theorem wp_of_skip {P : Program} {o : Oper} {a : Act} {w w' : World} {K : Act → World → Prop} {Q : Exit → Act → World → Prop} (h : (execOp a.eval o).run P w = .ok .skip w') (hK : K (a.put o.dst undef) w') : o.wp P a w K Q := by
  unfold Oper.wp
  rw [h]
  exact hK
/-- Below z nothing changes but field fi of the book in block y. -/
structure RY (z y fi : Nat) (w w' : World) : Prop where
  os : w'.os = w.os
  tape : w'.tape = w.tape
  output : w'.output = w.output
  size : w.heap.size ≤ w'.heap.size
  old : ∀ k, k < z → k ≠ y → w'.heap[k]? = w.heap[k]?
  book : ∀ c, w.heap[y]? = some (.cells c 30 (0, 0)) → ∃ c', w'.heap[y]? = some (.cells c' 30 (0, 0)) ∧ c'.size = c.size ∧ ∀ j, j ≠ fi → c'[j]? = c[j]?
theorem RY.refl (z y fi : Nat) (w : World) : RY z y fi w w := ⟨rfl, rfl, rfl, Nat.le_refl _, fun _ _ _ => rfl, fun c h => ⟨c, h, rfl, fun _ _ => rfl⟩⟩
theorem RY.drawn (z y fi : Nat) (w : World) (n : Nat) : RY z y fi w { w with drawn := n } := ⟨rfl, rfl, rfl, Nat.le_refl _, fun _ _ _ => rfl, fun c h => ⟨c, h, rfl, fun _ _ => rfl⟩⟩
theorem RY.trans {z y fi : Nat} {A B C : World} (h : RY z y fi A B) (k : RY z y fi B C) : RY z y fi A C :=
  ⟨k.os.trans h.os, k.tape.trans h.tape, k.output.trans h.output, Nat.le_trans h.size k.size, fun i hi hy => (k.old i hi hy).trans (h.old i hi hy), fun c hc => by
    obtain ⟨c1, h1, h2, h3⟩ := h.book c hc
    obtain ⟨c2, h4, h5, h6⟩ := k.book c1 h1
    exact ⟨c2, h4, h5.trans h2, fun j hj => (h6 j hj).trans (h3 j hj)⟩⟩
theorem RY.of_below {z y fi : Nat} {w w' : World} (hz : z ≤ w.heap.size) (hb : Below w.heap.size w w') : RY z y fi w w' :=
  ⟨hb.os, hb.tape, hb.output, hb.size, fun k hk _ => hb.block k (by omega), fun c hc => ⟨c, (hb.block y (Array.getElem?_eq_some_iff.1 hc).1).trans hc, rfl, fun _ _ => rfl⟩⟩
theorem RY.of_grown {z y fi : Nat} {w w' : World} {row : Option Nat} (hz : z ≤ w.heap.size) (hy : y < z) (hr : ∀ k, row = some k → z ≤ k) (h : w.grownBy w' row) : RY z y fi w w' := by
  have hk : ∀ k, k < z → w'.heap[k]? = w.heap[k]? := fun k hk => h.block k (by omega) (fun e => by have := hr k e.symm; omega)
  exact ⟨h.os, h.tape, h.output, h.size, fun k hk1 _ => hk k hk1, fun c hc => ⟨c, (hk y hy).trans hc, rfl, fun _ _ => rfl⟩⟩
theorem RY.set {z y fi : Nat} {w : World} {c : Array Value} {v : Value} (hc : w.heap[y]? = some (.cells c 30 (0, 0))) : RY z y fi w (w.setCell ⟨y, fi, none⟩ v) := by
  refine ⟨rfl, rfl, rfl, by simp [World.setCell], fun k _ hk => Below.heap_setCell _ _ _ k hk, fun c' hc' => ?_⟩
  rw [hc] at hc'
  cases hc'
  exact ⟨_, set_book' fi hc v, by simp, fun j hj => by rw [Array.getElem?_setIfInBounds, if_neg (Ne.symm hj)]⟩
def KeepBut (y : Nat) (w w' : World) : Prop := ∀ k, k < w.heap.size → k ≠ y → w'.heap[k]? = w.heap[k]?
theorem ownsRow_keep {w w' : World} {z y : Nat} {e : TypeId} {size : Nat} {v : Value} {n : Nat} {xs : List Value} (h : w.ownsRow z e size v n xs) (hy : y < z) (hk : KeepBut y w w') : w'.ownsRow z e size v n xs :=
  ownsRow_of h (fun g hg => hk g (h.lt g hg).2 (by have := (h.lt g hg).1; omega))
/-- The cells of a list of soundings. -/
def flatS (l : List Sound) : List Value := l.flatMap fun y => [i64 y.hour, i64 y.shore, i64 y.deep]
theorem flatS_len (l : List Sound) : (flatS l).length = l.length * 3 := by
  induction l with
  | nil => rfl
  | cons y l ih => simp [flatS] at ih ⊢; omega
theorem flatS_get (l : List Sound) (k : Nat) (h : k < l.length) : (flatS l)[k * 3]? = some (i64 l[k].hour) ∧ (flatS l)[k * 3 + 1]? = some (i64 l[k].shore) ∧ (flatS l)[k * 3 + 2]? = some (i64 l[k].deep) := by
  induction l generalizing k with
  | nil => cases h
  | cons y l ih =>
    cases k with
    | zero => exact ⟨rfl, rfl, rfl⟩
    | succ k =>
      have := ih k (by simpa using h)
      rw [show (k + 1) * 3 = k * 3 + 1 + 1 + 1 by omega]
      exact this
theorem flatS_cells {n : Nat} {w : World} {b o : Nat} {a : Option Addr} {l : List Sound} (h : SoundsAt n w b o a l) : ∀ j u, (flatS l)[j]? = some u → w.cell? ((⟨b, o, none⟩ : Addr).add j) = some u := by
  intro j u hu
  have hj : j < l.length * 3 := by rw [← flatS_len]; exact (List.getElem?_eq_some_iff.1 hu).1
  rw [show (⟨b, o, none⟩ : Addr).add j = ⟨b, o + j, none⟩ by unfold Addr.add; split <;> simp_all]
  have hk : j / 3 < l.length := by omega
  obtain ⟨g1, g2, g3⟩ := flatS_get l (j / 3) hk
  rcases (by omega : j = j / 3 * 3 ∨ j = j / 3 * 3 + 1 ∨ j = j / 3 * 3 + 2) with e | e | e
  · rw [e] at hu ⊢
    rw [g1] at hu
    cases hu
    exact h.hour _ hk
  · rw [e] at hu ⊢
    rw [g2] at hu
    cases hu
    exact h.shore _ hk
  · rw [e] at hu ⊢
    rw [g3] at hu
    cases hu
    exact h.deep _ hk
theorem sounds_row {z : Nat} {W : World} {v : Value} {l : List Sound} (h : W.ownsRow z 70 3 v l.length (flatS l)) (hl : l.length ≤ 1000) : ∃ b a c, v = .slice a l.length c ∧ SoundsAt W.heap.size W b 0 a l := by
  rcases h.2 with ⟨rfl, h0⟩ | ⟨g, cap, cur, rfl, h3, h4, h5, h6, h7, h8⟩
  · have : l = [] := List.length_eq_zero_iff.1 h0
    subst this
    exact ⟨0, none, 0, rfl, ⟨by simp, fun e => absurd rfl e, fun e => absurd rfl e, fun k hk => by simp at hk, fun k hk => by simp at hk, fun k hk => by simp at hk⟩⟩
  · have hc : ∀ j u, (flatS l)[j]? = some u → W.cell? ⟨g, 0 + j, none⟩ = some u := fun j u hu => by
      have := h.cells (g := g) rfl j u hu
      rw [addr_add] at this
      rwa [Nat.zero_add]
    refine ⟨g, _, cap, rfl, ⟨by omega, fun _ => rfl, fun _ => (h.lt g rfl).2, fun k hk => hc _ _ (flatS_get l k hk).1, fun k hk => ?_, fun k hk => ?_⟩⟩
    · exact hc (k * 3 + 1) _ (flatS_get l k hk).2.1
    · exact hc (k * 3 + 2) _ (flatS_get l k hk).2.2
theorem set_same {c c' : Array Value} {fi : Nat} {v : Value} (hs : c'.size = c.size) (hj : ∀ j, j ≠ fi → c'[j]? = c[j]?) : c'.setIfInBounds fi v = c.setIfInBounds fi v := by
  apply Array.ext_getElem?
  intro j
  rw [Array.getElem?_setIfInBounds, Array.getElem?_setIfInBounds, hs]
  by_cases h : fi = j
  · rw [if_pos h, if_pos h]
  · rw [if_neg h, if_neg h]; exact hj j (fun e => h e.symm)
theorem ownsRow_down {w : World} {z z' : Nat} {e : TypeId} {size : Nat} {v : Value} {n : Nat} {xs : List Value} (h : w.ownsRow z' e size v n xs) (hz : z ≤ z') : w.ownsRow z e size v n xs := by
  refine ⟨h.1, h.2.imp id ?_⟩
  rintro ⟨g, cap, cur, h1, h2, h3⟩
  exact ⟨g, cap, cur, h1, Nat.le_trans hz h2, h3⟩
theorem heap_new_at (W : World) (o : Obj) (k : Nat) (h : k = W.heap.size) : (W.alloc o).heap[k]? = some o := by subst h; exact heap_alloc_new W o
theorem info70 : (Tryd.prog.info? 70).map (fun i => (i.zero, i.size, i.bytes)) = some (some (.agg #[i64 0, i64 0, i64 0]), 3, 24) := by kernel_rfl
theorem info24' : (Tryd.prog.info? 24).map (fun i => (i.zero, i.size, i.bytes)) = some (some (.agg #[i64 0, i64 0]), 2, 16) := by kernel_rfl
end Go.Proofs.YtkbmpkdflgimmaaDoor
/- The contract of with: a book with a sounding more. -/
namespace Go.Proofs.YtkbmpkdflgimmaaDoor
open Go.RowKit Go.Shelf

def rdWi (i : Nat) : List Nat := match i with
  | 0 => [7] | 1 => [8] | 2 => [9] | 3 => [10] | 4 => [11] | 5 => [12] | 6 => [13] | 7 => [14] | _ => []
def pureWi (i : Nat) : Bool := match i with
  | 0 => false | 3 => false | 5 => false | 6 => false | 8 => false | _ => true
def usWi (i : Nat) : List Nat := match i with
  | 2 => [1] | 3 => [0, 2] | 5 => [4] | 6 => [3, 5] | 8 => [6, 7] | _ => []
def kpWi (i : Nat) : Bool := match i with
  | 8 => true | _ => false
def gWi (z xb yb : Nat) (B : Book) (ta : Option Addr) (tc : Nat) (sa : Option Addr) (sc : Nat) (d : Sound) (i : Nat) (vs : List Value) (W : World) : Prop := match i with
  | 0 => ∃ g, vs = [.slice (some ⟨g, 0, none⟩) 0 0] ∧ z ≤ g ∧ W.heap[g]? = some (.cells #[] 70 (0, 0))
  | 1 => vs = [.pointer (some ⟨xb, 13, none⟩)]
  | 2 => vs = [.slice sa B.sounds.length sc]
  | 3 => ∃ v, vs = [v] ∧ W.ownsRow z 70 3 v B.sounds.length (flatS B.sounds)
  | 4 => vs = [.agg #[i64 d.hour, i64 d.shore, i64 d.deep]]
  | 5 => ∃ g, vs = [.slice (some ⟨g, 0, none⟩) 1 1] ∧ z ≤ g ∧ W.heap[g]? = some (.cells #[i64 d.hour, i64 d.shore, i64 d.deep] 70 (0, 0))
  | 6 => ∃ v, vs = [v] ∧ W.ownsRow z 70 3 v (B.sounds.length + 1) (flatS (B.sounds ++ [d]))
  | 7 => vs = [.pointer (some ⟨yb, 13, none⟩)]
  | 8 => ∃ v, W.heap[yb]? = some (.cells ((bookCells B ta tc sa sc).setIfInBounds 13 v) 30 (0, 0)) ∧ W.ownsRow z 70 3 v (B.sounds.length + 1) (flatS (B.sounds ++ [d]))
  | _ => True
def SWi (yb : Nat) (i : Nat) (w w' : World) : Prop := i ≠ 6 → KeepBut yb w w'
def addS (B : Book) (d : Sound) : Book := { B with sounds := B.sounds ++ [d] }
theorem KeepBut.below {y : Nat} {w w' : World} (h : Below w.heap.size w w') : KeepBut y w w' := fun k hk _ => h.block k hk
theorem flatS_snoc (l : List Sound) (d : Sound) : flatS (l ++ [d]) = flatS l ++ [i64 d.hour, i64 d.shore, i64 d.deep] := by simp [flatS]
theorem flatS_one (l : List Sound) : ∀ u ∈ flatS l, u.oneCell' = true := by
  intro u hu
  obtain ⟨y, _, h⟩ := List.mem_flatMap.1 hu
  simp at h
  rcases h with rfl | rfl | rfl <;> rfl
set_option maxRecDepth 100000 in
set_option maxHeartbeats 4000000 in
theorem with_any (B : Book) (d : Sound) (tb tq : Nat) (ta : Option Addr) (tc : Nat) (sb sq : Nat) (sa : Option Addr) (sc : Nat) (w : World) (hT : SpansAt w.heap.size w tb tq ta B.tides) (hS : SoundsAt w.heap.size w sb sq sa B.sounds) (hl : B.sounds.length ≤ 100) :
    Calls Tryd.prog 42 #[bookVal B ta tc sa sc, .agg #[i64 d.hour, i64 d.shore, i64 d.deep]] w (BookPost (addS B d) w) := by
  have hb0 : Below w.heap.size w ((((w.alloc (.cells (bookCells B ta tc sa sc) 30)).alloc (.cells #[i64 d.hour, i64 d.shore, i64 d.deep] 70)).alloc (.cells zero30 30)).alloc (.cells zero30 30)) := ((((Below.refl _ w).alloc (Nat.le_refl _) _).alloc (by simp) _).alloc (by simp <;> omega) _).alloc (by simp <;> omega) _
  have h1 : ((((w.alloc (.cells (bookCells B ta tc sa sc) 30)).alloc (.cells #[i64 d.hour, i64 d.shore, i64 d.deep] 70)).alloc (.cells zero30 30)).alloc (.cells zero30 30)).heap[w.heap.size]? = some (.cells (bookCells B ta tc sa sc) 30 (0, 0)) := (Below.heap_alloc _ _ _ (by simp <;> omega)).trans ((Below.heap_alloc _ _ _ (by simp <;> omega)).trans ((Below.heap_alloc _ _ _ (by simp <;> omega)).trans (heap_alloc_new w _)))
  have h2 : ((((w.alloc (.cells (bookCells B ta tc sa sc) 30)).alloc (.cells #[i64 d.hour, i64 d.shore, i64 d.deep] 70)).alloc (.cells zero30 30)).alloc (.cells zero30 30)).heap[w.heap.size + 1]? = some (.cells #[i64 d.hour, i64 d.shore, i64 d.deep] 70 (0, 0)) := (Below.heap_alloc _ _ _ (by simp <;> omega)).trans ((Below.heap_alloc _ _ _ (by simp <;> omega)).trans (heap_new_at _ _ _ (by simp)))
  have h3 : ((((w.alloc (.cells (bookCells B ta tc sa sc) 30)).alloc (.cells #[i64 d.hour, i64 d.shore, i64 d.deep] 70)).alloc (.cells zero30 30)).alloc (.cells zero30 30)).heap[w.heap.size + 2]? = some (.cells zero30 30 (0, 0)) := (Below.heap_alloc _ _ _ (by simp <;> omega)).trans (heap_new_at _ _ _ (by simp))
  have h4 : ((((w.alloc (.cells (bookCells B ta tc sa sc) 30)).alloc (.cells #[i64 d.hour, i64 d.shore, i64 d.deep] 70)).alloc (.cells zero30 30)).alloc (.cells zero30 30)).heap[w.heap.size + 3]? = some (.cells zero30 30 (0, 0)) := heap_new_at _ _ _ (by simp)
  have hx0 : (((w.alloc (.cells (bookCells B ta tc sa sc) 30)).alloc (.cells #[i64 d.hour, i64 d.shore, i64 d.deep] 70)).alloc (.cells zero30 30)).heap[w.heap.size]? = some (.cells (bookCells B ta tc sa sc) 30 (0, 0)) := (Below.heap_alloc _ _ _ (by simp <;> omega)).trans ((Below.heap_alloc _ _ _ (by simp <;> omega)).trans (heap_alloc_new w _))
  have hst := SetAt.row ((((w.alloc (.cells (bookCells B ta tc sa sc) 30)).alloc (.cells #[i64 d.hour, i64 d.shore, i64 d.deep] 70)).alloc (.cells zero30 30)).alloc (.cells zero30 30)) (w.heap.size + 3) (bookCells B ta tc sa sc)
  have hsz : ((((w.alloc (.cells (bookCells B ta tc sa sc) 30)).alloc (.cells #[i64 d.hour, i64 d.shore, i64 d.deep] 70)).alloc (.cells zero30 30)).alloc (.cells zero30 30)).heap.size = w.heap.size + 4 := by simp
  go_enter Tryd.func42, Tryd.ntmps42
  go_wp2_with (first | (refine ld30 rfl _ rfl _ _ rfl hx0 rfl ?_) | (refine st30 rfl _ _ rfl _ (bookCells B ta tc sa sc) zero30 rfl rfl h4 rfl rfl (by simp [Value.oneCell']) ?_))
  refine abs_world (fun W => w.heap.size + 4 = W.heap.size ∧ Below w.heap.size w W ∧ W.heap[w.heap.size]? = some (.cells (bookCells B ta tc sa sc) 30 (0, 0)) ∧ W.heap[w.heap.size + 1]? = some (.cells #[i64 d.hour, i64 d.shore, i64 d.deep] 70 (0, 0)) ∧ W.heap[w.heap.size + 2]? = some (.cells zero30 30 (0, 0)) ∧ W.heap[w.heap.size + 3]? = some (.cells (bookCells B ta tc sa sc) 30 (0, 0))) ⟨hsz.symm.trans hst.size.symm, hst.below (by omega) hb0, (hst.other _ (by omega)).trans h1, (hst.other _ (by omega)).trans h2, (hst.other _ (by omega)).trans h3, setRow_heap _ _ _ _ _ _ h4⟩ ?_
  clear hst hsz hb0 h1 h2 h3 h4 hx0
  rintro W2 ⟨hsz, hb2, hx2, hy2, hz2, hc2⟩
  refine rs_region rdWi pureWi usWi kpWi (gWi (w.heap.size + 4) w.heap.size (w.heap.size + 3) B ta tc sa sc d) (RY (w.heap.size + 4) (w.heap.size + 3) 13) (SWi (w.heap.size + 3)) (by kernel_rfl) (by kernel_rfl) (by kernel_rfl) (fun n => RY.drawn _ _ _ _ n) (RY.refl _ _ _) (fun _ _ _ _ _ _ => rfl) (fun _ _ _ => RY.trans) ?_ ?_ ?_
  · intro k i hk hi hn vs wA wB hG hR hS'
    match k, hk, hn, hG with
    | 0, _, hn, hG =>
      have h6 : i ≠ 6 := by rintro rfl; exact absurd (show false = true from hn) (by decide)
      obtain ⟨g, h1, h2, h3⟩ := hG
      exact ⟨g, h1, h2, (hS' h6 g (Array.getElem?_eq_some_iff.1 h3).1 (by omega)).trans h3⟩
    | 1, _, _, hG => exact hG
    | 2, _, _, hG => exact hG
    | 3, _, hn, hG =>
      have h6 : i ≠ 6 := by rintro rfl; exact absurd (show false = true from hn) (by decide)
      obtain ⟨v, h1, h2⟩ := hG
      exact ⟨v, h1, ownsRow_keep h2 (by omega) (hS' h6)⟩
    | 4, _, _, hG => exact hG
    | 5, _, hn, hG =>
      have h6 : i ≠ 6 := by rintro rfl; exact absurd (show false = true from hn) (by decide)
      obtain ⟨g, h1, h0, h2⟩ := hG
      exact ⟨g, h1, h0, (hS' h6 g (Array.getElem?_eq_some_iff.1 h2).1 (by omega)).trans h2⟩
    | 6, _, hn, hG =>
      have h6 : i ≠ 6 := by rintro rfl; exact absurd (show false = true from hn) (by decide)
      obtain ⟨v, h1, h2⟩ := hG
      exact ⟨v, h1, ownsRow_keep h2 (by omega) (hS' h6)⟩
    | 7, _, _, hG => exact hG
    | 8, _, hn, _ =>
      match i, hi, hn with
      | 0, _, hn => exact absurd (show false = true from hn) (by decide)
      | 1, _, hn => exact absurd (show false = true from hn) (by decide)
      | 2, _, hn => exact absurd (show false = true from hn) (by decide)
      | 3, _, hn => exact absurd (show false = true from hn) (by decide)
      | 4, _, hn => exact absurd (show false = true from hn) (by decide)
      | 5, _, hn => exact absurd (show false = true from hn) (by decide)
      | 6, _, hn => exact absurd (show false = true from hn) (by decide)
      | 7, _, hn => exact absurd (show false = true from hn) (by decide)
      | 8, _, hn => exact absurd (show false = true from hn) (by decide)
      | _ + 9, hi, _ => exact absurd hi (by simp)
    | _ + 9, hk, _, _ => exact absurd hk (by simp)
  · intro i op ho act wA hR hF hD
    have sz : act.tmps.size = 16 := hF.size
    have hzA : w.heap.size + 4 ≤ wA.heap.size := by have := hR.size; omega
    have hxA := (hR.old w.heap.size (by omega) (by omega)).trans hx2
    have hyA := (hR.old (w.heap.size + 1) (by omega) (by omega)).trans hy2
    have hSA := hS.same (w' := wA) ⟨by omega, fun k hk => (hR.old k (by omega) (by omega)).trans (hb2.block k hk)⟩
    have hxc := cells_of hxA
    have hyc := cells_of hyA
    obtain ⟨i0, hi, hz0, hz1, hzz⟩ := info_parts info70
    have hsl := hS.len
    match i, ho, hD with
    | 0, ho, hD =>
      cases ho
      refine rsw_wp (wanted_none rfl) rfl (wp_of_run (v := .slice (some ⟨wA.heap.size, 0, none⟩) 0 0) (w' := wA.alloc (.cells #[] 70)) (by simp [go_sem]) ?_)
      exact ⟨_, rfl, RY.of_below hzA ((Below.refl _ _).alloc (Nat.le_refl _) _), fun _ => KeepBut.below ((Below.refl _ _).alloc (Nat.le_refl _) _), _, congrArg (fun v => [v]) (slotOf_same act 7 _ (by omega)), hzA, heap_alloc_new _ _⟩
    | 1, ho, hD =>
      cases ho
      have e2 := slot_tmps (show slotOf act 2 = .pointer (some ⟨w.heap.size, 0, none⟩) from hF.slot 2 (by kernel_rfl))
      exact rsw_val (wanted_none rfl) (.pointer (some ⟨w.heap.size, 13, none⟩)) (by simp [go_sem, e2]) (RY.refl _ _ _ _) (fun _ _ _ _ => rfl) (congrArg (fun v => [v]) (slotOf_same act 8 _ (by omega)))
    | 2, ho, hD =>
      cases ho
      have e8 := slot_tmps (List.cons.inj (hD 1 (by decide))).1
      exact rsw_val (wanted_none rfl) (.slice sa B.sounds.length sc) (by simp [go_sem, e8, hxc]) (RY.refl _ _ _ _) (fun _ _ _ _ => rfl) (congrArg (fun v => [v]) (slotOf_same act 9 _ (by omega)))
    | 3, ho, hD =>
      cases ho
      obtain ⟨g, d7, hzg, hg⟩ := hD 0 (by decide)
      have E7 : act.eval (.tmp 7) = .slice (some ⟨g, 0, none⟩) 0 0 := (List.cons.inj d7).1
      have E9 : act.eval (.tmp 9) = .slice sa B.sounds.length sc := (List.cons.inj (hD 2 (by decide))).1
      by_cases h0 : B.sounds = []
      · have hlen0 : B.sounds.length = 0 := by simp [h0]
        have hown : wA.ownsRow (w.heap.size + 4) 70 3 (.slice (some ⟨g, 0, none⟩) 0 0) B.sounds.length (flatS B.sounds) := by
          rw [h0]
          exact ⟨rfl, .inr ⟨g, 0, _, rfl, hzg, hg, Nat.le_refl _, Nat.zero_le _, rfl, rfl⟩⟩
        refine rsw_wp (wanted_none rfl) rfl (wp_of_run (v := .slice (some ⟨g, 0, none⟩) 0 0) (w' := wA) (ex_append _ _ 28 rfl ?_) ?_)
        · rw [E7, E9, hlen0]
          cases sa <;> simp [Builtin.append_, run_underlying Tryd.underlying28, sizeOf, typeInfo, hi, Builtin.lenOf, Builtin.firstCells, loadCells, loadCellsFrom, storeCells]
        · exact ⟨_, rfl, RY.refl _ _ _ _, fun _ _ _ _ => rfl, _, congrArg (fun v => [v]) (slotOf_same act 10 _ (by omega)), hown⟩
      · obtain rfl := hS.at_ h0
        have hpos : 0 < B.sounds.length := List.length_pos_iff.2 h0
        obtain ⟨v', w', hrun, r1, r2⟩ := run_append_arg_grows (P := Tryd.prog) wA 28 28 70 i0 (.agg #[i64 0, i64 0, i64 0]) 3 24 Tryd.underlying28 hi hz0 hz1 hzz rfl (by decide) ⟨g, 0, none⟩ 0 0 [] rfl (fun j u h => by cases h) ⟨sb, sq, none⟩ B.sounds.length sc (flatS B.sounds) (flatS_len _) (flatS_cells hSA) (by omega) (by unfold maxLen; omega) (by omega)
        refine rsw_wp (wanted_none rfl) rfl (wp_of_run (v := v') (w' := w') (ex_append _ _ 28 rfl ?_) ?_)
        · rw [E7, E9]
          exact hrun
        · exact ⟨_, rfl, RY.of_grown hzA (by omega) (fun k hk => by cases hk) r2, fun _ k hk _ => r2.block k hk (by simp), _, congrArg (fun v => [v]) (slotOf_same act 10 _ (by omega)), ownsRow_down (by simpa using r1) hzA⟩
    | 4, ho, hD =>
      cases ho
      have e3 := slot_tmps (show slotOf act 3 = .pointer (some ⟨w.heap.size + 1, 0, none⟩) from hF.slot 3 (by kernel_rfl))
      exact rsw_val (wanted_none rfl) (.agg #[i64 d.hour, i64 d.shore, i64 d.deep]) (by simp [go_sem, e3, hyc]) (RY.refl _ _ _ _) (fun _ _ _ _ => rfl) (congrArg (fun v => [v]) (slotOf_same act 11 _ (by omega)))
    | 5, ho, hD =>
      cases ho
      have e11 := slot_tmps (List.cons.inj (hD 4 (by decide))).1
      refine rsw_wp (wanted_none rfl) rfl (wp_of_run (v := .slice (some ⟨wA.heap.size, 0, none⟩) 1 1) (w' := wA.alloc (.cells #[i64 d.hour, i64 d.shore, i64 d.deep] 70)) (by simp [go_sem, e11]) ?_)
      exact ⟨_, rfl, RY.of_below hzA ((Below.refl _ _).alloc (Nat.le_refl _) _), fun _ => KeepBut.below ((Below.refl _ _).alloc (Nat.le_refl _) _), _, congrArg (fun v => [v]) (slotOf_same act 12 _ (by omega)), hzA, heap_alloc_new _ _⟩
    | 6, ho, hD =>
      cases ho
      obtain ⟨v, d10, hown⟩ := hD 3 (by decide)
      obtain ⟨g, d12, _, hg⟩ := hD 5 (by decide)
      have hgc := cells_of hg
      have hnews : ∀ j u, [i64 d.hour, i64 d.shore, i64 d.deep][j]? = some u → wA.cell? ((⟨g, 0, none⟩ : Addr).add j) = some u := fun j u hu => by
        rw [addr_add, hgc]
        simpa using hu
      obtain ⟨v', w', hrun, r1, r2, _⟩ := run_append_own (P := Tryd.prog) wA (w.heap.size + 4) 28 28 70 i0 (.agg #[i64 0, i64 0, i64 0]) 3 24 Tryd.underlying28 hi hz0 hz1 hzz rfl (by decide) v B.sounds.length (flatS B.sounds) hown ⟨g, 0, none⟩ 1 1 [i64 d.hour, i64 d.shore, i64 d.deep] rfl hnews (by simp [Value.oneCell']) (by unfold maxLen; omega) (by omega) hzA
      refine rsw_wp (wanted_none rfl) rfl (wp_of_run (v := v') (w' := w') (ex_append _ _ 28 rfl ?_) ?_)
      · rw [show act.eval (.tmp 10) = _ from (List.cons.inj d10).1, show act.eval (.tmp 12) = _ from (List.cons.inj d12).1]
        exact hrun
      · exact ⟨_, rfl, RY.of_grown hzA (by omega) (fun k hk => (hown.lt k hk).1) r2, fun h => absurd rfl h, _, congrArg (fun v => [v]) (slotOf_same act 13 _ (by omega)), by rw [flatS_snoc]; exact r1⟩
    | 7, ho, hD =>
      cases ho
      have e5 := slot_tmps (show slotOf act 5 = .pointer (some ⟨w.heap.size + 3, 0, none⟩) from hF.slot 5 (by kernel_rfl))
      exact rsw_val (wanted_none rfl) (.pointer (some ⟨w.heap.size + 3, 13, none⟩)) (by simp [go_sem, e5]) (RY.refl _ _ _ _) (fun _ _ _ _ => rfl) (congrArg (fun v => [v]) (slotOf_same act 14 _ (by omega)))
    | 8, ho, hD =>
      cases ho
      obtain ⟨v, d13, hown⟩ := hD 6 (by decide)
      have e13 := slot_tmps (List.cons.inj d13).1
      have e14 := slot_tmps (List.cons.inj (hD 7 (by decide))).1
      obtain ⟨c', hc', hcs, hcj⟩ := hR.book _ hc2
      have hcc := cells_of hc'
      have hcf := frozen_of hc'
      have h13 : c'[13]? = some (c'[13]'(by rw [hcs]; exact (show 13 < 14 by decide))) := Array.getElem?_eq_getElem _
      obtain ⟨ao, n', cp, rfl⟩ : ∃ ao n' cp, v = .slice ao n' cp := by rcases hown.2 with ⟨rfl, _⟩ | ⟨_, _, _, rfl, _⟩ <;> exact ⟨_, _, _, rfl⟩
      refine rsw_wp (wanted_none rfl) rfl (wp_of_skip (w' := wA.setCell ⟨w.heap.size + 3, 13, none⟩ (.slice ao n' cp)) (by simp [go_sem, e13, e14, hcc, hcf, h13]) ?_)
      refine ⟨_, rfl, RY.set hc', fun _ k hk hky => Below.heap_setCell _ _ _ k hky, _, ?_, ownsRow_keep (y := w.heap.size + 3) hown (by omega) (fun k hk hky => Below.heap_setCell _ _ _ k hky)⟩
      rw [set_book' 13 hc' _, set_same hcs hcj]
    | _ + 9, ho, _ => cases ho
  · intro act wA hR hF hA
    obtain ⟨v, hc, hown⟩ := hA 8 (by decide) rfl
    have f4 : slotOf act 4 = .pointer (some ⟨w.heap.size + 2, 0, none⟩) := hF.slot 4 (by kernel_rfl)
    have f5 : slotOf act 5 = .pointer (some ⟨w.heap.size + 3, 0, none⟩) := hF.slot 5 (by kernel_rfl)
    rw [act_eta act 16 hF.size hF.defers]
    simp only [show List.range 16 = [0, 1, 2, 3, 4, 5, 6, 7, 8, 9, 10, 11, 12, 13, 14, 15] from rfl, List.map_cons, List.map_nil, f4, f5]
    clear hA hF f4 f5
    have hzA := (hR.old (w.heap.size + 2) (by omega) (by omega)).trans hz2
    have hbA : Below w.heap.size w wA := ⟨hR.os.trans hb2.os, hR.tape.trans hb2.tape, hR.output.trans hb2.output, Nat.le_trans hb2.size hR.size, fun k hk => (hR.old k (by omega) (by omega)).trans (hb2.block k hk)⟩
    have hown' : wA.ownsRow (w.heap.size + 4) 70 3 v (B.sounds ++ [d]).length (flatS (B.sounds ++ [d])) := by simpa using hown
    obtain ⟨g, a, c, rfl, hSn⟩ := sounds_row hown' (by simp; omega)
    have hne : g ≠ w.heap.size + 2 := fun e => by
      have ha := hSn.at_ (by simp)
      subst ha
      have := (hown'.lt g rfl).1
      omega
    have hcells : (bookCells B ta tc sa sc).setIfInBounds 13 (.slice a (B.sounds ++ [d]).length c) = bookCells (addS B d) ta tc a c := rfl
    rw [hcells] at hc
    have hset := SetAt.row wA (w.heap.size + 2) (bookCells (addS B d) ta tc a c)
    have hbF := hset.below (by omega) hbA
    have hTF := (hT.same (Same.of_below hbF)).up hbF.size
    have hSF := sound_set (z := w.heap.size + 2) (cs := bookCells (addS B d) ta tc a c) hSn (fun _ => hne)
    clear hown hown' hSn hR hS hT hb2 hx2 hy2 hz2 hc2 hcells
    go_wp2_with (first | (refine ld30 rfl _ rfl _ _ rfl hc rfl ?_) | (refine st30 rfl _ _ rfl _ (bookCells (addS B d) ta tc a c) zero30 rfl rfl hzA rfl rfl (by simp [Value.oneCell']) ?_))
    refine bodyPost_ret (results_cell_row rfl _ _ (w.heap.size + 2) 30 _ (0, 0) _ rfl (setRow_heap _ _ _ _ _ _ hzA) Tryd.underlying30 rfl (by rw [size30]; rfl)) rfl ?_
    exact ⟨_, rfl, hbF, tb, tq, ta, tc, g, 0, a, c, rfl, hTF, hSF⟩
theorem with_v {B : Book} {v : Value} {w : World} (hB : BookV w v B) (d : Sound) (hl : B.sounds.length ≤ 100) : Calls Tryd.prog 42 #[v, .agg #[i64 d.hour, i64 d.shore, i64 d.deep]] w (BookPost (addS B d) w) := by
  obtain ⟨tb, tq, ta, tc, sb, sq, sa, sc, rfl, hT, hS⟩ := hB
  exact with_any B d tb tq ta tc sb sq sa sc w hT hS hl
end Go.Proofs.YtkbmpkdflgimmaaDoor
/- Plain laws: heights and bottoms that are told; one sounding more. -/
namespace Go.Proofs.YtkbmpkdflgimmaaDoor

theorem foldl_min (l : List Int) (x : Int) : (l.foldl min x = x ∨ l.foldl min x ∈ l) ∧ l.foldl min x ≤ x ∧ ∀ y ∈ l, l.foldl min x ≤ y := by
  induction l generalizing x with
  | nil => simp
  | cons a l ih =>
    obtain ⟨h1, h2, h3⟩ := ih (min x a)
    simp only [List.foldl_cons, List.mem_cons]
    refine ⟨?_, by omega, ?_⟩
    · rcases h1 with h | h
      · rcases (by omega : min x a = x ∨ min x a = a) with e | e
        · left; rw [h, e]
        · right; left; rw [h, e]
      · right; right; exact h
    · rintro y (rfl | hy)
      · omega
      · exact h3 y hy
theorem foldl_max (l : List Int) (x : Int) : (l.foldl max x = x ∨ l.foldl max x ∈ l) ∧ x ≤ l.foldl max x ∧ ∀ y ∈ l, y ≤ l.foldl max x := by
  induction l generalizing x with
  | nil => simp
  | cons a l ih =>
    obtain ⟨h1, h2, h3⟩ := ih (max x a)
    simp only [List.foldl_cons, List.mem_cons]
    refine ⟨?_, by omega, ?_⟩
    · rcases h1 with h | h
      · rcases (by omega : max x a = x ∨ max x a = a) with e | e
        · left; rw [h, e]
        · right; left; rw [h, e]
      · right; right; exact h
    · rintro y (rfl | hy)
      · omega
      · exact h3 y hy
theorem min_max {l : List Int} (h : l ≠ []) : (minL l ∈ l ∧ maxL (l.head?.getD 0) l ∈ l) ∧ ∀ y ∈ l, minL l ≤ y ∧ y ≤ maxL (l.head?.getD 0) l := by
  cases l with
  | nil => exact absurd rfl h
  | cons a l =>
    have h1 := foldl_min l a
    have h2 := foldl_max (a :: l) a
    unfold minL maxL
    simp only [List.tail_cons, List.headD_cons, List.head?_cons, Option.getD_some, List.mem_cons] at h2 ⊢
    refine ⟨⟨h1.1, ?_⟩, ?_⟩
    · rcases h2.1 with h | h
      · left; exact h
      · exact h
    · rintro y (rfl | hy)
      · exact ⟨h1.2.1, h2.2.1⟩
      · exact ⟨h1.2.2 y hy, h2.2.2 y (.inr hy)⟩
theorem mem_heightL {B : Book} {hr x : Int} : x ∈ heightL B hr ↔ ∃ f, CC B [] f ∧ HH B [] hr f x := by
  unfold heightL
  rw [List.mem_flatMap]
  constructor
  · rintro ⟨f, hf, hx⟩; exact ⟨f, mem_cansB.1 hf, mem_hts.1 hx⟩
  · rintro ⟨f, hf, hx⟩; exact ⟨f, mem_cansB.2 hf, mem_hts.2 hx⟩
theorem mem_floorL {B : Book} {s x : Int} : x ∈ (cansB B).map (fAt s) ↔ ∃ f, CC B [] f ∧ fAt s f = x := by
  rw [List.mem_map]
  constructor
  · rintro ⟨f, hf, hx⟩; exact ⟨f, mem_cansB.1 hf, hx⟩
  · rintro ⟨f, hf, hx⟩; exact ⟨f, mem_cansB.2 hf, hx⟩
theorem heightR_ok {B : Book} {s hr ld : Int} (he : askE B true = 0) (hc : ∃ f, CC B [] f) (q : Qs B s hr ld) :
    ∃ a b, heightR B hr = (a, b, 0) ∧ (∃ f, CC B [] f ∧ HH B [] hr f a) ∧ (∃ f, CC B [] f ∧ HH B [] hr f b) ∧ ∀ x f, CC B [] f → HH B [] hr f x → a ≤ x ∧ x ≤ b := by
  obtain ⟨f, hf⟩ := hc
  obtain ⟨x, hx⟩ := hf.height q.h0 q.h1
  have hne : heightL B hr ≠ [] := List.ne_nil_of_mem (mem_heightL.2 ⟨f, hf, hx⟩)
  have hmm := min_max hne
  refine ⟨_, _, ?_, mem_heightL.1 hmm.1.1, mem_heightL.1 hmm.1.2, fun x f h1 h2 => hmm.2 x (mem_heightL.2 ⟨f, h1, h2⟩)⟩
  unfold heightR
  rw [q.ho, if_pos he]
theorem heightR_err {B : Book} {s hr ld e : Int} (he : askE B true = e) (h0 : e ≠ 0) (q : Qs B s hr ld) : heightR B hr = (0, 0, e) := by
  unfold heightR
  rw [q.ho, he, if_neg h0]
theorem floorR_ok {B : Book} {s hr ld : Int} (he : askE B true = 0) (hc : ∃ f, CC B [] f) (q : Qs B s hr ld) :
    ∃ a b, floorR B s = (a, b, 0) ∧ (∃ f, CC B [] f ∧ fAt s f = a) ∧ (∃ f, CC B [] f ∧ fAt s f = b) ∧ ∀ f, CC B [] f → a ≤ fAt s f ∧ fAt s f ≤ b := by
  obtain ⟨f, hf⟩ := hc
  have hne : (cansB B).map (fAt s) ≠ [] := List.ne_nil_of_mem (mem_floorL.2 ⟨f, hf, rfl⟩)
  have hmm := min_max hne
  refine ⟨_, _, ?_, mem_floorL.1 hmm.1.1, mem_floorL.1 hmm.1.2, fun f h1 => hmm.2 _ (mem_floorL.2 ⟨f, h1, rfl⟩)⟩
  unfold floorR
  rw [q.sh, if_pos he]
theorem floorR_err {B : Book} {s hr ld e : Int} (he : askE B true = e) (h0 : e ≠ 0) (q : Qs B s hr ld) : floorR B s = (0, 0, e) := by
  unfold floorR
  rw [q.sh, he, if_neg h0]
section
variable {B : Book} {d : Sound}
theorem FitH.more {l : List Sound} {but : List Int} {hr h f0 f1 : Int} (hf : FitH (l ++ [d]) but hr h f0 f1) : FitH l but hr h f0 f1 := fun i y hy =>
  hf i y (by rw [List.getElem?_append_left (List.getElem?_eq_some_iff.1 hy).1]; exact hy)
theorem HH.more {but : List Int} {hr : Int} {f : Int × Int} {x : Int} (h : HH (addS B d) but hr f x) : HH B but hr f x := ⟨h.1, h.2.more⟩
theorem CC.more {but : List Int} {f : Int × Int} (h : CC (addS B d) but f) : CC B but f := ⟨h.1, h.2.1, fun hr hlt => (h.2.2 hr hlt).imp fun _ hx => hx.more⟩
/-- THE LAW OF ONE SOUNDING MORE. -/
theorem more_law {s hr ld : Int} (hv : B.valid = true) (q : Qs B s hr ld) :
    (checkE (addS B d) = 20 ∧ heightR (addS B d) hr = (0, 0, 20)) ∨ (checkE (addS B d) = 0 ∧ heightR (addS B d) hr = (0, 0, 22)) ∨
    ∃ a b a2 b2 u v u2 v2 k k2 m e m2 e2, heightR B hr = (a, b, 0) ∧ heightR (addS B d) hr = (a2, b2, 0) ∧ coversB a b a2 b2 = true ∧ floorR B s = (u, v, 0) ∧ floorR (addS B d) s = (u2, v2, 0) ∧ coversB u v u2 v2 = true ∧
      landsR B s hr ld = (k, 0) ∧ landsR (addS B d) s hr ld = (k2, 0) ∧ (k = 1 ∨ k2 = k) ∧ mostR B s hr = (m, e) ∧ mostR (addS B d) s hr = (m2, e2) ∧ (e = 4 ∨ (e = 0 ∧ e2 = 0 ∧ m ≤ m2)) := by
  have hV := valid_iff.1 hv
  cases hxv : (addS B d).valid
  · left
    have he : askE (addS B d) true = 20 := ask_bad hxv _
    have qx : Qs (addS B d) s hr ld := ⟨q.s0, q.s1, q.h0, q.h1, q.l0, q.l1⟩
    exact ⟨by simp [checkE, hxv], heightR_err he (by decide) qx⟩
  · right
    have hXV := valid_iff.1 hxv
    have qx : Qs (addS B d) s hr ld := ⟨q.s0, q.s1, q.h0, q.h1, q.l0, q.l1⟩
    rcases ask_cases hxv with ⟨_, he⟩ | ⟨hcx, hex⟩
    · left
      exact ⟨by simp [checkE, hxv], heightR_err he (by decide) qx⟩
    · right
      rcases ask_cases hv with ⟨hc, _⟩ | ⟨hc, he⟩
      · exact absurd (hcx.imp fun f hf => hf.more) hc
      · obtain ⟨a, b, h1, _, _, h4⟩ := heightR_ok he hc q
        obtain ⟨a2, b2, g1, ⟨f1, c1, d1⟩, ⟨f2, c2, d2⟩, _⟩ := heightR_ok hex hcx qx
        obtain ⟨u, v, i1, _, _, i4⟩ := floorR_ok he hc q
        obtain ⟨u2, v2, j1, ⟨f3, c3, d3⟩, ⟨f4, c4, d4⟩, _⟩ := floorR_ok hex hcx qx
        have sure : ∀ ld, sureB B s hr ld = true → sureB (addS B d) s hr ld = true := fun ld hs => sureB_iff.2 fun f hf x hx => sureB_iff.1 hs f hf.more x hx.more
        have never : maybeB B s hr ld = false → maybeB (addS B d) s hr ld = false := fun hs => by
          cases hm : maybeB (addS B d) s hr ld
          · rfl
          · obtain ⟨f, hf, x, hx, hl⟩ := maybeB_iff.1 hm
            rw [maybeB_iff.2 ⟨f, hf.more, x, hx.more, hl⟩] at hs
            cases hs
        refine ⟨a, b, a2, b2, u, v, u2, v2, _, _, (mostR B s hr).1, (mostR B s hr).2, (mostR (addS B d) s hr).1, (mostR (addS B d) s hr).2, h1, g1, ?_, i1, j1, ?_, landsR_ok he q, landsR_ok hex qx, ?_, rfl, rfl, ?_⟩
        · have e1 := h4 a2 f1 c1.more d1.more
          have e2 := h4 b2 f2 c2.more d2.more
          simp [coversB]
          omega
        · have e1 := i4 f3 c3.more
          have e2 := i4 f4 c4.more
          simp [coversB]
          omega
        · have r := kind_range B s hr ld
          rcases (by omega : kindB B s hr ld = 0 ∨ kindB B s hr ld = 1 ∨ kindB B s hr ld = 2) with h | h | h
          · right
            rw [h]
            exact (kind_zero hXV hcx q.h0 q.h1).2 (never ((kind_zero hV hc q.h0 q.h1).1 h))
          · exact .inl h
          · right
            rw [h]
            exact (kind_two hXV hcx q.h0 q.h1).2 (sure ld ((kind_two hV hc q.h0 q.h1).1 h))
        · rcases mostR_ok he q with ⟨h3, _⟩ | ⟨m, h3, h5, h6, h7, h8⟩
          · left; rw [h3]
          · right
            rw [h3]
            rcases mostR_ok hex qx with ⟨g3, g4⟩ | ⟨m', g3, g5, g6, g7, g8⟩
            · have := sure m h7
              rw [g4 m h5 h6] at this
              cases this
            · rw [g3]
              refine ⟨rfl, rfl, ?_⟩
              rcases Int.lt_or_le m' m with hlt | hle
              · have := sure m h7
                rw [g8 m hlt h6] at this
                cases this
              · exact hle
end
end Go.Proofs.YtkbmpkdflgimmaaDoor
/- Plain laws: the soundings that must be wrong. -/
namespace Go.Proofs.YtkbmpkdflgimmaaDoor

/-- Does a list come before another one? -/
def beforeB : List Int → List Int → Bool
  | [], [] => false
  | [], _ :: _ => true
  | _ :: _, [] => false
  | x :: l, y :: m => if x = y then beforeB l m else decide (x < y)
def betterB (l m : List Int) : Bool := decide (l.length < m.length) || (decide (l.length = m.length) && beforeB l m)
theorem before_irrefl (l : List Int) : beforeB l l = false := by
  induction l with
  | nil => rfl
  | cons x l ih => simp [beforeB, ih]
theorem before_append (p l m : List Int) : beforeB (p ++ l) (p ++ m) = beforeB l m := by
  induction p with
  | nil => rfl
  | cons x p ih => simp [beforeB, ih]
theorem rising_start {n : Nat} {l t : List Int} {x : Int} (h : Rising n (l ++ x :: t)) : (startOf l : Int) ≤ x ∧ 0 ≤ x ∧ x < n := by
  have hx := h.2 x (by simp)
  refine ⟨?_, hx⟩
  unfold startOf
  cases hl : l.getLast? with
  | none => simpa using hx.1
  | some z =>
    have hz := List.mem_of_getLast? hl
    have h1 := (List.pairwise_append.1 h.1).2.2 z hz x (by simp)
    have h2 := h.2 z (by simp [hz])
    simp only
    omega
theorem choose_spec (B : Book) : ∀ (d : Nat) (l : List Int), Rising B.sounds.length l →
    (∀ r, chooseB B d l = some r → ∃ t, r = l ++ t ∧ t.length = d ∧ Rising B.sounds.length r ∧ okB B r = true ∧ ∀ t' : List Int, t'.length = d → Rising B.sounds.length (l ++ t') → beforeB t' t = true → okB B (l ++ t') = false) ∧
    (chooseB B d l = none → ∀ t' : List Int, t'.length = d → Rising B.sounds.length (l ++ t') → okB B (l ++ t') = false) := by
  intro d
  induction d with
  | zero =>
    intro l hl
    unfold chooseB
    constructor
    · intro r hr
      split at hr
      · rename_i hok
        cases hr
        refine ⟨[], by simp, rfl, hl, hok, fun t' h1 _ h3 => ?_⟩
        rw [List.length_eq_zero_iff.1 h1] at h3
        cases h3
      · cases hr
    · intro hn t' h1 _
      rw [List.length_eq_zero_iff.1 h1, List.append_nil]
      split at hn
      · cases hn
      · rename_i hok
        simpa using hok
  | succ d ih =>
    intro l hl
    have hst := startOf_le hl
    have step : ∀ (x : Int) (t : List Int), Rising B.sounds.length (l ++ x :: t) → ∃ i : Nat, x = i ∧ startOf l ≤ i ∧ i < B.sounds.length := fun x t h => by
      obtain ⟨h1, h2, h3⟩ := rising_start h
      exact ⟨x.toNat, by omega, by omega, by omega⟩
    rw [chooseB_succ]
    constructor
    · intro r hr
      obtain ⟨j, h1, h2, h3, h4⟩ := scan_some.1 hr
      have hlj : Rising B.sounds.length (l ++ [(j : Int)]) := hl.snoc h1 (by omega)
      obtain ⟨t, rfl, h5, h6, h7, h8⟩ := (ih _ hlj).1 r h3
      refine ⟨(j : Int) :: t, by simp, by simp [h5], h6, h7, fun t' h9 h10 h11 => ?_⟩
      cases t' with
      | nil => simp at h9
      | cons x t' =>
        obtain ⟨i, rfl, hi1, hi2⟩ := step x t' h10
        have e : l ++ (i : Int) :: t' = (l ++ [(i : Int)]) ++ t' := by simp
        rw [e] at h10 ⊢
        simp only [beforeB] at h11
        split at h11
        · rename_i hij
          obtain rfl : i = j := by omega
          exact h8 t' (by simpa using h9) h10 h11
        · have hij : i < j := by simp at h11; omega
          exact (ih _ (hl.snoc hi1 hi2)).2 (h4 i hi1 hij) t' (by simpa using h9) h10
    · intro hn t' h9 h10
      cases t' with
      | nil => simp at h9
      | cons x t' =>
        obtain ⟨i, rfl, hi1, hi2⟩ := step x t' h10
        have e : l ++ (i : Int) :: t' = (l ++ [(i : Int)]) ++ t' := by simp
        rw [e] at h10 ⊢
        exact (ih _ (hl.snoc hi1 hi2)).2 (scan_none.1 hn i hi1 (by omega)) t' (by simpa using h9) h10
theorem okB_iff {B : Book} {l : List Int} : okB B l = true ↔ ∃ f, CC B l f := by
  unfold okB
  rw [Bool.not_eq_true', List.isEmpty_eq_false_iff_exists_mem]
  exact exists_congr fun f => mem_ext0_dep
def allI (n : Nat) : List Int := (List.range n).map fun (i : Nat) => (i : Int)
theorem allI_rising (n : Nat) : Rising n (allI n) := by
  refine ⟨?_, fun x hx => ?_⟩
  · unfold allI
    rw [List.pairwise_map]
    exact List.Pairwise.imp (R := (· < ·)) (fun h => by omega) List.pairwise_lt_range
  · unfold allI at hx
    simp at hx
    obtain ⟨i, hi, rfl⟩ := hx
    omega
theorem okB_all {B : Book} (hV : Vld B) : okB B (allI B.sounds.length) = true := by
  refine okB_iff.2 ⟨(B.s0.fl, B.s1.fl), ⟨Int.le_refl _, hV.sh0.ff⟩, ⟨Int.le_refl _, hV.sh1.ff⟩, fun hr hlt => ⟨(tideAt B hr).lo, ⟨Int.le_refl _, ?_⟩, fun i y hy hb => ?_⟩⟩
  · rw [tideAt_nat hlt]
    exact (hV.tides _ (List.getElem_mem hlt)).2.1
  · refine absurd ?_ hb
    unfold allI
    exact List.mem_map.2 ⟨i, List.mem_range.2 (List.getElem?_eq_some_iff.1 hy).1, rfl⟩
/-- What Wrong answers. -/
theorem wrong_spec {B : Book} (hV : Vld B) : Rising B.sounds.length (wrongL B) ∧ okB B (wrongL B) = true ∧ ∀ l, Rising B.sounds.length l → betterB l (wrongL B) = true → okB B l = false := by
  unfold wrongL
  cases hs : scan (fun many => chooseB B many []) (B.sounds.length + 1) 0 with
  | none =>
    exfalso
    have h1 := scan_none.1 hs B.sounds.length (Nat.zero_le _) (by omega)
    have h2 := (choose_spec B B.sounds.length [] (rising_nil _)).2 h1 (allI B.sounds.length) (by simp [allI]) (by simpa using allI_rising _)
    rw [List.nil_append, okB_all hV] at h2
    cases h2
  | some r =>
    obtain ⟨j, _, h2, h3, h4⟩ := scan_some.1 hs
    obtain ⟨t, e, h5, h6, h7, h8⟩ := (choose_spec B j [] (rising_nil _)).1 r h3
    rw [List.nil_append] at e
    subst e
    refine ⟨h6, h7, fun l hl hb => ?_⟩
    simp only [Option.getD_some, betterB, Bool.or_eq_true, Bool.and_eq_true, decide_eq_true_eq] at hb
    rcases hb with hb | ⟨hb, hc⟩
    · exact (choose_spec B l.length [] (rising_nil _)).2 (h4 _ (Nat.zero_le _) (by omega)) l rfl hl
    · exact h8 l (by omega) hl hc
theorem wrong_nil {B : Book} (hV : Vld B) : (wrongL B).length = 0 ↔ okB B [] = true := by
  obtain ⟨h1, h2, h3⟩ := wrong_spec hV
  constructor
  · intro h
    rw [List.length_eq_zero_iff.1 h] at h2
    exact h2
  · intro h
    cases hw : wrongL B with
    | nil => rfl
    | cons x l =>
      have := h3 [] (rising_nil _) (by rw [hw]; rfl)
      rw [h] at this
      cases this
/-- A book without some of its soundings. -/
def dropS (l : List Sound) (but : List Int) (k : Nat) : List Sound := (List.range k).filterMap fun (i : Nat) => if (i : Int) ∈ but then none else l[i]?
def lessS (B : Book) (but : List Int) : Book := { B with sounds := dropS B.sounds but B.sounds.length }
theorem mem_dropS {l : List Sound} {but : List Int} {y : Sound} : y ∈ dropS l but l.length ↔ ∃ i : Nat, l[i]? = some y ∧ (i : Int) ∉ but := by
  unfold dropS
  simp only [List.mem_filterMap, List.mem_range]
  constructor
  · rintro ⟨i, _, h⟩
    split at h
    · cases h
    · rename_i hb; exact ⟨i, h, hb⟩
  · rintro ⟨i, h, hb⟩
    exact ⟨i, (List.getElem?_eq_some_iff.1 h).1, by rw [if_neg hb]; exact h⟩
theorem dropS_succ (l : List Sound) (but : List Int) (k : Nat) (h : k < l.length) : dropS l but (k + 1) = dropS l but k ++ (if (k : Int) ∈ but then [] else [l[k]]) := by
  unfold dropS
  rw [List.range_succ, List.filterMap_append]
  congr 1
  by_cases hb : (k : Int) ∈ but
  · simp [hb]
  · simp [hb, h]
theorem dropS_len (l : List Sound) (but : List Int) (k : Nat) : (dropS l but k).length ≤ k := by
  unfold dropS
  have := List.length_filterMap_le (fun (i : Nat) => if (i : Int) ∈ but then none else l[i]?) (List.range k)
  simpa using this
theorem FitH.less {l : List Sound} {but : List Int} {hr h f0 f1 : Int} : FitH (dropS l but l.length) [] hr h f0 f1 ↔ FitH l but hr h f0 f1 := by
  constructor
  · intro H i y hy hb hh
    obtain ⟨j, hj⟩ := List.mem_iff_getElem?.1 (mem_dropS.2 ⟨i, hy, hb⟩)
    exact H j y hj (by simp) hh
  · intro H i y hy _ hh
    obtain ⟨j, hj, hb⟩ := mem_dropS.1 (List.mem_iff_getElem?.2 ⟨i, hy⟩)
    exact H j y hj hb hh
theorem CC.less {B : Book} {but : List Int} {f : Int × Int} : CC (lessS B but) [] f ↔ CC B but f := by
  unfold CC HH
  simp only [show (lessS B but).sounds = dropS B.sounds but B.sounds.length from rfl, FitH.less]
  rfl
theorem less_valid {B : Book} (hV : Vld B) (but : List Int) : Vld (lessS B but) := by
  refine ⟨hV.h1, hV.h24, hV.e0, hV.ee, hV.e40, hV.e4, hV.k1, hV.k20, hV.u0, hV.u10, ?_, hV.tides, hV.sh0, hV.sh1, fun y hy => ?_⟩
  · have := dropS_len B.sounds but B.sounds.length
    have := hV.s6
    show (dropS B.sounds but B.sounds.length).length ≤ 6
    omega
  · obtain ⟨i, hi, _⟩ := mem_dropS.1 hy
    exact hV.sounds y (List.mem_of_getElem? hi)
theorem rightR_less {B : Book} (hV : Vld B) (but : List Int) : rightR (lessS B but) = (okB B but, 0) := by
  unfold rightR
  rw [if_pos (valid_iff.2 (less_valid hV but))]
  congr 1
  rw [Bool.eq_iff_iff, okB_iff, Bool.not_eq_true', cans_ne]
  exact exists_congr fun f => CC.less
theorem rightR_ok {B : Book} (hv : B.valid = true) : rightR B = (okB B [], 0) := by
  unfold rightR
  rw [if_pos hv]
  rfl
end Go.Proofs.YtkbmpkdflgimmaaDoor
/- Contracts of Member, Members, Before, Better. -/
namespace Go.Proofs.YtkbmpkdflgimmaaDoor
open Go.RowKit Go.Shelf

def MemberPost (w : World) (e : Ending) (w' : World) : Prop := (∃ b : Bool, e = .returned (.bool b)) ∧ w = w'
theorem member_any (n : Int) (k : Nat) (w : World) : Calls Tryd.prog 82 #[i64 n, i64 k] w (MemberPost w) := by
  have hk : ¬ (k : Int) < 0 := by omega
  go_enter Tryd.func82, Tryd.ntmps82
  go_wp2
  go_ret
  exact ⟨⟨_, rfl⟩, rfl⟩
def MembersPost (m : Nat) (w : World) (e : Ending) (w' : World) : Prop := ∃ v l, e = .returned v ∧ Below w.heap.size w w' ∧ ListV w' v l ∧ Rising m l
theorem Rising.up {n m : Nat} {l : List Int} (h : Rising n l) (hn : n ≤ m) : Rising m l := ⟨h.1, fun x hx => by have := h.2 x hx; omega⟩
theorem Rising.push {n : Nat} {l : List Int} (h : Rising n l) : Rising (n + 1) (l ++ [(n : Int)]) := by
  refine ⟨List.pairwise_append.2 ⟨h.1, List.pairwise_singleton _ _, fun x hx y hy => ?_⟩, fun x hx => ?_⟩
  · obtain rfl := List.mem_singleton.1 hy
    exact (h.2 x hx).2
  · rcases List.mem_append.1 hx with hx | hx
    · have := h.2 x hx; omega
    · obtain rfl := List.mem_singleton.1 hx
      omega
theorem rising_len {n : Nat} {l : List Int} (h : Rising n l) : l.length ≤ n := by
  induction n generalizing l with
  | zero =>
    cases l with
    | nil => simp
    | cons x l => have := h.2 x (by simp); omega
  | succ n ih =>
    rcases List.eq_nil_or_concat l with rfl | ⟨l', z, rfl⟩
    · simp
    · have hz := h.2 z (by simp)
      have hl' : Rising n l' := by
        have hp := List.pairwise_append.1 (by simpa using h.1)
        refine ⟨hp.1, fun x hx => ?_⟩
        have h1 := hp.2.2 x hx z (by simp)
        have h2 := h.2 x (by simp [hx])
        omega
      have := ih hl'
      simp
      omega
set_option maxRecDepth 100000 in
set_option maxHeartbeats 4000000 in
theorem members_any (n : Int) (m : Nat) (w : World) (hm : m ≤ 100) : Calls Tryd.prog 45 #[i64 n, i64 m] w (MembersPost m w) := by
  have hb0 : Below w.heap.size w (w.alloc (.cells #[] 3)) := (Below.refl _ w).alloc (Nat.le_refl _) _
  have hown0 : (w.alloc (.cells #[] 3)).ownsRow w.heap.size 3 1 (.slice (some ⟨w.heap.size, 0, none⟩) 0 0) 0 [] := ⟨rfl, .inr ⟨_, 0, _, rfl, Nat.le_refl _, heap_alloc_new w _, Nat.le_refl _, Nat.zero_le _, rfl, rfl⟩⟩
  go_enter Tryd.func45, Tryd.ntmps45
  go_wp2_with fail
  go_loopw [6, 5] (fun i v wr => ∃ (k : Nat) (l : List Int), k ≤ m ∧ i = .int .i64 k ∧ wr.ownsRow w.heap.size 3 1 v l.length (l.map i64) ∧ Rising k l ∧ Below w.heap.size w wr) (fun i _ _ => m - (intOf i).toNat)
  case atStart => exact ⟨0, [], Nat.zero_le _, rfl, hown0, rising_nil _, hb0⟩
  case round =>
    obtain ⟨k, l, hk, rfl, hrow, hris, hbw⟩ := hrel
    by_cases hlt : k < m
    · have hlt' : (k : Int) < (m : Int) := by omega
      have hll := rising_len hris
      obtain ⟨i0, hi, hz0, hz1', hz2⟩ := info_parts info3
      go_wp2_with fail
      refine (member_any n k _).mono ?_
      rintro e w2 ⟨⟨b, rfl⟩, rfl⟩
      cases b
      · go_wp2_with fail
        go_roundw
        case rel => exact ⟨k + 1, l, by omega, by go_num, hrow, hris.up (by omega), hbw⟩
        case measure => simp [intOf]; omega
      · go_wp2_with (at_builtin; refine wpList_append_own _ rfl _ _ 40 rfl w.heap.size 3 i0 (i64 0) 1 8 Tryd.underlying40 hi hz0 hz1' hz2 rfl (by decide) _ _ _ rfl (hrow.alloc _) ⟨wr.heap.size, 0, none⟩ 1 1 [i64 k] rfl rfl (cell_one_new _ _ _) (by simp [Value.oneCell']) (by unfold maxLen; omega) (by omega) (by have := hbw.size; simp; omega) ?_; intro v' w4 hown' hgrow hnil)
        have hbw4 : Below w.heap.size w w4 := (hbw.alloc hbw.size _).grown hgrow (by have := hbw.size; simp; omega) (fun j e => (hrow.lt j e).1)
        go_roundw
        case rel => exact ⟨k + 1, l ++ [(k : Int)], by omega, by go_num, by simpa using hown', hris.push, hbw4⟩
        case measure => simp [intOf]; omega
    · have hlt' : ¬ (k : Int) < (m : Int) := by omega
      have hll := rising_len hris
      have hL : ListV wr _ l := ListV.of_row hrow (by omega)
      have hris' := hris.up hk
      obtain ⟨b, o, a, c, rfl, hlc, hI⟩ := hL
      go_wp2_with fail
      go_ret
      exact ⟨_, l, rfl, hbw, ⟨b, o, a, c, rfl, hlc, hI⟩, hris'⟩
theorem before_ne {l m : List Int} {k : Nat} (h1 : k < l.length) (h2 : k < m.length) (ht : l.take k = m.take k) (hne : ¬ l[k] = m[k]) : beforeB l m = decide (l[k] < m[k]) := by
  have e1 : l = l.take k ++ l[k] :: l.drop (k + 1) := by rw [← List.drop_eq_getElem_cons h1, List.take_append_drop]
  have e2 : m = l.take k ++ m[k] :: m.drop (k + 1) := by rw [ht, ← List.drop_eq_getElem_cons h2, List.take_append_drop]
  calc beforeB l m = beforeB (l.take k ++ l[k] :: l.drop (k + 1)) (l.take k ++ m[k] :: m.drop (k + 1)) := by rw [← e1, ← e2]
    _ = decide (l[k] < m[k]) := by rw [before_append]; simp [beforeB, hne]
theorem before_end {l m : List Int} {k : Nat} (ht : l.take k = m.take k) (hk : k = min l.length m.length) : beforeB l m = decide (l.length < m.length) := by
  rcases Nat.le_total l.length m.length with h | h
  · have hl : k = l.length := by omega
    rw [hl, List.take_length] at ht
    have e2 : m = l ++ m.drop l.length := by
      have := List.take_append_drop l.length m
      rw [← ht] at this
      exact this.symm
    have hd : beforeB l m = beforeB (l ++ []) (l ++ m.drop l.length) := by rw [← e2, List.append_nil]
    rw [hd, before_append]
    cases hdr : m.drop l.length with
    | nil =>
      have := List.drop_eq_nil_iff.1 hdr
      simp [beforeB]
      omega
    | cons y t =>
      have : l.length < m.length := by
        rcases Nat.lt_or_ge l.length m.length with h' | h'
        · exact h'
        · rw [List.drop_eq_nil_iff.2 h'] at hdr; cases hdr
      simp [beforeB, this]
  · have hl : k = m.length := by omega
    rw [hl, List.take_length] at ht
    have e2 : l = m ++ l.drop m.length := by
      have := List.take_append_drop m.length l
      rw [ht] at this
      exact this.symm
    have hd : beforeB l m = beforeB (m ++ l.drop m.length) (m ++ []) := by rw [← e2, List.append_nil]
    rw [hd, before_append]
    have : ¬ l.length < m.length := by omega
    cases l.drop m.length <;> simp [beforeB, this]
def BeforePost (l m : List Int) (w : World) (e : Ending) (w' : World) : Prop := e = .returned (.bool (beforeB l m)) ∧ Below w.heap.size w w'
set_option maxRecDepth 100000 in
set_option maxHeartbeats 4000000 in
theorem before_any (n b o b' o' : Nat) (a a' : Option Addr) (c c' : Nat) (l m : List Int) (w : World) (hn : n ≤ w.heap.size) (hl : IntsAt n w b o a l) (hm : IntsAt n w b' o' a' m) :
    Calls Tryd.prog 83 #[.slice a l.length c, .slice a' m.length c'] w (BeforePost l m w) := by
  have hlen := hl.len
  have hlen' := hm.len
  go_enter Tryd.func83, Tryd.ntmps83
  go_wp2_with fail
  go_loopw [5] (fun i wr => ∃ k : Nat, k ≤ min l.length m.length ∧ i = .int .i64 k ∧ Below w.heap.size w wr ∧ Hid (l.take k = m.take k)) (fun i _ => min l.length m.length - (intOf i).toNat)
  case atStart => exact ⟨0, Nat.zero_le _, rfl, Below.refl _ _, Lib.hid (by simp)⟩
  case round =>
    obtain ⟨k, hk, rfl, hbw, ht⟩ := hrel
    by_cases hlt : k < min l.length m.length
    · have h1 : k < l.length := by omega
      have h2 : k < m.length := by omega
      have hl1 := hl.same ((Same.of_below hbw).mono hn)
      have hm1 := hm.same ((Same.of_below hbw).mono hn)
      have hi1 : ∀ W, (Instr.indexAt 40 (.slice a l.length c) (.int .i64 (k : Int))).run Tryd.prog W = .ok (.pointer (some ⟨b, o + k, none⟩)) W := fun W => idx40 W (hl1.at_ (ne_nil_of_lt h1)) h1
      have hi2 : ∀ W, (Instr.indexAt 40 (.slice a' m.length c') (.int .i64 (k : Int))).run Tryd.prog W = .ok (.pointer (some ⟨b', o' + k, none⟩)) W := fun W => idx40 W (hm1.at_ (ne_nil_of_lt h2)) h2
      have hc1 := hl1.cell k h1
      have hc2 := hm1.cell k h2
      have hp : (k : Int) < min (l.length : Int) (m.length : Int) := by omega
      by_cases heq : l[k] = m[k]
      · have hnb : (l[k] != m[k]) = false := by simp [heq]
        have ht' : Hid (l.take (k + 1) = m.take (k + 1)) := by
          show _ = _
          rw [List.take_succ_eq_append_getElem h1, List.take_succ_eq_append_getElem h2, ht.out, heq]
        clear heq
        go_wp2_with fail
        all_goals
          go_quiet (fail)
          go_wp2_with fail
          go_roundw
          case rel => exact ⟨k + 1, by omega, by go_num, ⟨hbw.os, hbw.tape, hbw.output, hbw.size, hbw.block⟩, ht'⟩
          case measure => simp [intOf]; omega
      · have hnb : (l[k] != m[k]) = true := by simp [heq]
        have hfin := Lib.hid (before_ne h1 h2 ht.out heq)
        clear heq
        go_wp2_with fail
        all_goals
          go_quiet (fail)
          go_wp2_with fail
          go_quiet (fail)
          go_wp2_with fail
          go_ret
          exact ⟨by rw [hfin.out]; rfl, ⟨hbw.os, hbw.tape, hbw.output, hbw.size, hbw.block⟩⟩
    · have hlt' : ¬ (k : Int) < min (l.length : Int) (m.length : Int) := by omega
      have hfin := Lib.hid (before_end ht.out (show k = min l.length m.length by omega))
      go_wp2_with fail
      all_goals
        go_ret
        exact ⟨by rw [hfin.out]; rfl, hbw⟩
def BetterPost (l m : List Int) (w : World) (e : Ending) (w' : World) : Prop := e = .returned (.bool (betterB l m)) ∧ Below w.heap.size w w'
set_option maxRecDepth 100000 in
set_option maxHeartbeats 2000000 in
theorem better_any (n b o b' o' : Nat) (a a' : Option Addr) (c c' : Nat) (l m : List Int) (w : World) (hn : n ≤ w.heap.size) (hl : IntsAt n w b o a l) (hm : IntsAt n w b' o' a' m) :
    Calls Tryd.prog 47 #[.slice a l.length c, .slice a' m.length c'] w (BetterPost l m w) := by
  have hlen := hl.len
  have hlen' := hm.len
  rcases Nat.lt_trichotomy l.length m.length with h | h | h
  · have h' : (l.length : Int) < (m.length : Int) := by omega
    have hfin : Hid (betterB l m = true) := Lib.hid (by simp [betterB, h])
    go_enter Tryd.func47, Tryd.ntmps47
    go_wp2_with fail
    go_ret
    exact ⟨by rw [hfin.out]; rfl, Below.refl _ _⟩
  · have h' : ¬ (l.length : Int) < (m.length : Int) := by omega
    have h2 : ((l.length : Int) == (m.length : Int)) = true := by simp [h]
    have hfin : Hid (betterB l m = beforeB l m) := Lib.hid (by simp [betterB, h])
    have hcall := before_any n b o b' o' a a' c c' l m w hn hl hm
    have h := Lib.hid h
    rename_i h3
    clear h3
    go_enter Tryd.func47, Tryd.ntmps47
    go_wp2_with (go_at_call 83; refine hcall.mono ?_; rintro e w1 ⟨rfl, hb1⟩)
    go_ret
    exact ⟨by rw [hfin.out]; rfl, hb1⟩
  · have h' : ¬ (l.length : Int) < (m.length : Int) := by omega
    have h2 : ((l.length : Int) == (m.length : Int)) = false := by simp; omega
    have hfin : Hid (betterB l m = false) := Lib.hid (by simp [betterB]; omega)
    go_enter Tryd.func47, Tryd.ntmps47
    go_wp2_with fail
    go_ret
    exact ⟨by rw [hfin.out]; rfl, Below.refl _ _⟩
theorem better_v {W : World} {v v' : Value} {l m : List Int} (h1 : ListV W v l) (h2 : ListV W v' m) : Calls Tryd.prog 47 #[v, v'] W (BetterPost l m W) := by
  obtain ⟨b, o, a, c, rfl, _, h1⟩ := h1
  obtain ⟨b', o', a', c', rfl, _, h2⟩ := h2
  exact better_any W.heap.size b o b' o' a a' c c' l m W (Nat.le_refl _) h1 h2
end Go.Proofs.YtkbmpkdflgimmaaDoor
/- The law for regions that draw their order, once more: with facts that hold until an operation has run (J). -/
namespace Go.Proofs.YtkbmpkdflgimmaaDoor
open Go.RowKit

section
variable {P : Program} {l : List Oper} {Q : Exit → Act → World → Prop} {a0 : Act} {w0 : World} {rd : Nat → List Nat} {pure : Nat → Bool} {G : Nat → List Value → World → Prop} {R : World → World → Prop} {S : Nat → World → World → Prop} {us : Nat → List Nat} {kp : Nat → Bool} {J : Nat → World → Prop}
/-- Operation i may run while tk has not. -/
def rjNeeds (l : List Oper) (pure : Nat → Bool) (tk i : Nat) : Bool := i != tk && !pure i && (match l[i]? with | none => true | some o => !(befores o).contains tk)
structure RjInv (l : List Oper) (a0 : Act) (w0 : World) (rd : Nat → List Nat) (G : Nat → List Value → World → Prop) (R : World → World → Prop) (us : Nat → List Nat) (kp : Nat → Bool) (J : Nat → World → Prop) (L : Array Bool) (a : Act) (w : World) : Prop where
  size : L.size = l.length
  closed : ∀ (i : Nat) o, l[i]? = some o → L[i]? = some true → ∀ j ∈ befores o, L[j]? = some true
  frame : RgFrame l a0 a
  rel : R w0 w
  has : ∀ (i : Nat), i < l.length → L[i]? = some true → (kp i = true ∨ ∃ j, i ∈ us j ∧ j < l.length ∧ L[j]? = some false) → G i (valsOf rd i a) w
  till : ∀ (tk : Nat), tk < l.length → L[tk]? = some false → J tk w
theorem rj_step_inv {L : Array Bool} {a : Act} {w w' : World} {i : Nat} {o : Oper} {v : Value} (hck : rgCheck l rd = true) (hRt : ∀ A B C, R A B → R B C → R A C)
    (hstab : ∀ k i, k < l.length → i < l.length → rsNeeds l pure us kp k i = true → ∀ vs w w', G k vs w → R w w' → S i w w' → G k vs w') (hJs : ∀ tk i, tk < l.length → i < l.length → rjNeeds l pure tk i = true → ∀ w w', J tk w → R w w' → S i w w' → J tk w') (hI : RjInv l a0 w0 rd G R us kp J L a w) (ho : l[i]? = some o) (hun : L[i]? = some false)
    (hbef : ∀ j ∈ befores o, L[j]? = some true) (hR : R w w') (hSi : pure i = false → S i w w') (hp : pure i = true → w' = w) (hG : G i (valsOf rd i (a.put o.dst v)) w') : RjInv l a0 w0 rd G R us kp J (L.setIfInBounds i true) (a.put o.dst v) w' := by
  have hil : i < l.length := (List.getElem?_eq_some_iff.1 ho).1
  have hiL : i < L.size := by rw [hI.size]; exact hil
  have hset : ∀ j, L[j]? = some true → (L.setIfInBounds i true)[j]? = some true := fun j hj => by
    rw [Array.getElem?_setIfInBounds]
    split
    · simp
    · exact hj
  have hback : ∀ j, j ≠ i → (L.setIfInBounds i true)[j]? = some true → L[j]? = some true := fun j hne hj => by
    rw [Array.getElem?_setIfInBounds, if_neg (Ne.symm hne)] at hj
    exact hj
  refine ⟨by simpa using hI.size, fun k p hp' hk j hj => ?_, hI.frame.put (List.mem_of_getElem? ho) v, hRt _ _ _ hI.rel hR, fun k hk hkl hlive => ?_, fun tk htk hun2 => ?_⟩
  · by_cases hki : k = i
    · subst hki
      rw [ho] at hp'
      cases hp'
      exact hset j (hbef j hj)
    · exact hset j (hI.closed k p hp' (hback k hki hk) j hj)
  · by_cases hki : k = i
    · subst hki; exact hG
    · have hkL := hback k hki hkl
      have hlive0 : kp k = true ∨ ∃ j, k ∈ us j ∧ j < l.length ∧ L[j]? = some false ∧ j ≠ i := by
        rcases hlive with h | ⟨j, h1, h2, h3⟩
        · exact .inl h
        · have hji : j ≠ i := fun e => by
            subst e
            rw [Array.getElem?_setIfInBounds, if_pos rfl, if_pos hiL] at h3
            cases h3
          rw [Array.getElem?_setIfInBounds, if_neg (Ne.symm hji)] at h3
          exact .inr ⟨j, h1, h2, h3, hji⟩
      have hold := hI.has k hk hkL (hlive0.imp id fun ⟨j, h1, h2, h3, _⟩ => ⟨j, h1, h2, h3⟩)
      obtain ⟨p, hpk⟩ : ∃ p, l[k]? = some p := ⟨_, List.getElem?_eq_getElem hk⟩
      have hnb : ¬ i ∈ befores p := fun hm => by
        have := hI.closed k p hpk hkL i hm
        rw [hun] at this
        cases this
      have hc := List.all_eq_true.1 hck k (List.mem_range.2 hk)
      simp only [hpk, Bool.and_eq_true] at hc
      have hc2 := List.all_eq_true.1 hc.2 i (List.mem_range.2 hil)
      simp only [ho] at hc2
      have hvals : valsOf rd k (a.put o.dst v) = valsOf rd k a := by
        unfold valsOf
        refine List.map_congr_left fun x hx => slotOf_put a o.dst v x (fun e => ?_)
        rw [e] at hc2
        simp at hc2
        rcases hc2 with h | h | h
        · exact hki h.symm
        · exact h hx
        · exact hnb h
      rw [hvals]
      cases hpi : pure i
      · refine hstab k i hk hil ?_ _ _ _ hold hR (hSi hpi)
        unfold rsNeeds
        simp only [hpk, ho]
        have hki2 : (k != i) = true := by simpa using hki
        have hnb2 : (befores p).contains i = false := by simpa using hnb
        rw [hki2, hpi, hnb2]
        simp only [Bool.not_false, Bool.and_self, Bool.true_and]
        rcases hlive0 with h | ⟨j, h1, h2, h3, h4⟩
        · rw [h]; rfl
        · rw [Bool.or_eq_true]
          right
          rw [List.any_eq_true]
          refine ⟨j, List.mem_range.2 h2, ?_⟩
          have hj1 : (us j).contains k = true := by simpa using h1
          have hj2 : (j != i) = true := by simpa using h4
          have hj3 : (befores o).contains j = false := by
            cases hc : (befores o).contains j
            · rfl
            · have := hbef j (by simpa using hc)
              rw [h3] at this
              cases this
          rw [hj1, hj2, hj3]
          rfl
      · rw [hp hpi]; exact hold
  · have hti : tk ≠ i := fun e => by
      subst e
      rw [Array.getElem?_setIfInBounds, if_pos rfl, if_pos hiL] at hun2
      cases hun2
    rw [Array.getElem?_setIfInBounds, if_neg (Ne.symm hti)] at hun2
    have hJ := hI.till tk htk hun2
    cases hpi : pure i
    · refine hJs tk i htk hil ?_ _ _ hJ hR (hSi hpi)
      unfold rjNeeds
      simp only [ho]
      have h1 : (i != tk) = true := by simpa using Ne.symm hti
      have h2 : (befores o).contains tk = false := by
        cases hc : (befores o).contains tk
        · rfl
        · have := hbef tk (by simpa using hc)
          rw [hun2] at this
          cases this
      rw [h1, h2, hpi]
      rfl
    · rw [hp hpi]; exact hJ
theorem rj_any (hck : rgCheck l rd = true) (hus : rsUses l us = true) (hRr : ∀ A, R A A) (hSr : ∀ i A, S i A A) (hRt : ∀ A B C, R A B → R B C → R A C) (hstab : ∀ k i, k < l.length → i < l.length → rsNeeds l pure us kp k i = true → ∀ vs w w', G k vs w → R w w' → S i w w' → G k vs w') (hJs : ∀ tk i, tk < l.length → i < l.length → rjNeeds l pure tk i = true → ∀ w w', J tk w → R w w' → S i w w' → J tk w')
    (hstep : ∀ (i : Nat) o, l[i]? = some o → ∀ a w, R w0 w → RgFrame l a0 a → (∀ j ∈ us i, G j (valsOf rd j a) w) → (∀ tk p, l[tk]? = some p → (tk = i ∨ i ∈ befores p) → J tk w) → RsStep P l Q rd pure G R S i o a w)
    (hend : ∀ a w, R w0 w → RgFrame l a0 a → (∀ i, i < l.length → kp i = true → G i (valsOf rd i a) w) → Q .normal a w) :
    ∀ (fuel : Nat) (L : Array Bool) (a : Act) (w : World), unlisted l.length L ≤ fuel → RjInv l a0 w0 rd G R us kp J L a w → wpAny P .any l.toArray Q fuel L a w := by
  have done : ∀ (L : Array Bool) (a : Act) (w : World), RjInv l a0 w0 rd G R us kp J L a w → Region.ready .any l.toArray L = [] → Q .normal a w := fun L a w hI hr => by
    have hall : ∀ n, n ≤ l.length → ∀ i, i < n → L[i]? = some true := by
      intro n
      induction n with
      | zero => intro _ i h; omega
      | succ n ih =>
        intro hn i hi
        have hprev := ih (by omega)
        rcases Nat.lt_or_ge i n with h | h
        · exact hprev i h
        · obtain rfl : i = n := by omega
          have hlt : i < L.size := by rw [hI.size]; omega
          obtain ⟨o, ho⟩ : ∃ o, l[i]? = some o := ⟨_, List.getElem?_eq_getElem (by omega)⟩
          cases hb : L[i]? with
          | none => rw [Array.getElem?_eq_none_iff] at hb; omega
          | some b =>
            cases b with
            | true => rfl
            | false =>
              exfalso
              have hc := List.all_eq_true.1 hck i (List.mem_range.2 (by omega))
              simp only [ho, Bool.and_eq_true] at hc
              have : i ∈ Region.ready .any l.toArray L := by
                rw [mem_ready]
                refine ⟨by simp [Array.getD_eq_getD_getElem?, hb], o, by simpa using ho, fun e he hbd => ?_⟩
                have hm : e.on ∈ befores o := List.mem_map.2 ⟨e, List.mem_filter.2 ⟨by simpa using he, hbd⟩, rfl⟩
                have := List.all_eq_true.1 hc.1 _ hm
                have := hprev e.on (by simpa using this)
                simp [Array.getD_eq_getD_getElem?, this]
              rw [hr] at this
              cases this
    exact hend a w hI.rel hI.frame fun i hi hk => hI.has i hi (hall l.length (Nat.le_refl _) i hi) (.inl hk)
  intro fuel
  induction fuel with
  | zero =>
    intro L a w hf hI
    have hr : Region.ready .any l.toArray L = [] := by
      cases hr : Region.ready .any l.toArray L with
      | nil => rfl
      | cons i rest =>
        have hi : i ∈ Region.ready .any l.toArray L := by rw [hr]; exact List.mem_cons_self ..
        obtain ⟨h1, o, ho, _⟩ := mem_ready.1 hi
        have hil : i < l.length := by
          have := (Array.getElem?_eq_some_iff.1 ho).1
          simpa using this
        have hf' : L[i]? = some false := by
          have hlt : i < L.size := by rw [hI.size]; exact hil
          simp [Array.getD_eq_getD_getElem?, hlt] at h1 ⊢
          exact h1
        have := unlisted_set hil hf'
        omega
    exact ⟨hr, done L a w hI hr⟩
  | succ fuel ih =>
    intro L a w hf hI
    refine ⟨done L a w hI, fun i hi => ?_⟩
    obtain ⟨h1, o, ho, hall⟩ := mem_ready.1 hi
    have ho' : l[i]? = some o := by simpa using ho
    have hil : i < l.length := (List.getElem?_eq_some_iff.1 ho').1
    have hun : L[i]? = some false := by
      have hlt : i < L.size := by rw [hI.size]; exact hil
      simp [Array.getD_eq_getD_getElem?, hlt] at h1 ⊢
      exact h1
    have hbef : ∀ j ∈ befores o, L[j]? = some true := fun j hj => by
      obtain ⟨e, he, rfl⟩ := List.mem_map.1 hj
      obtain ⟨he1, he2⟩ := List.mem_filter.1 he
      have := hall e (by simpa using he1) he2
      cases hx : L[e.on]? with
      | none => simp [Array.getD_eq_getD_getElem?, hx] at this
      | some b => simp [Array.getD_eq_getD_getElem?, hx] at this; rw [this]
    have hc := List.all_eq_true.1 hck i (List.mem_range.2 hil)
    simp only [ho', Bool.and_eq_true] at hc
    have hu := List.all_eq_true.1 hus i (List.mem_range.2 hil)
    simp only [ho'] at hu
    have hS := hstep i o ho' a w hI.rel hI.frame (fun j hj => by
      have hjb : j ∈ befores o := by simpa using List.all_eq_true.1 hu j hj
      exact hI.has j (by have := List.all_eq_true.1 hc.1 j hjb; simp at this; omega) (hbef j hjb) (.inr ⟨i, hj, hil, hun⟩)) (fun tk p htp hor => by
      have htl : tk < l.length := (List.getElem?_eq_some_iff.1 htp).1
      refine hI.till tk htl ?_
      rcases hor with rfl | hm
      · exact hun
      · have hlt : tk < L.size := by rw [hI.size]; exact htl
        cases hb : L[tk]'hlt with
        | false => rw [Array.getElem?_eq_getElem hlt, hb]
        | true =>
          have := hI.closed tk p htp (by rw [Array.getElem?_eq_getElem hlt, hb]) i hm
          rw [hun] at this
          cases this)
    unfold RsStep at hS
    unfold wpOp
    simp only [ho]
    have next : ∀ v w', R w w' → (pure i = false → S i w w') → (pure i = true → w' = w) → G i (valsOf rd i (a.put o.dst v)) w' → wpAny P .any l.toArray Q fuel (L.setIfInBounds i true) (a.put o.dst v) w' := fun v w' hR hSi hp hG =>
      ih _ _ _ (by have := unlisted_set hil hun; omega) (rj_step_inv hck hRt hstab hJs hI ho' hun hbef hR hSi hp hG)
    split
    · rename_i hw
      rw [if_pos hw] at hS
      refine .inl (Oper.wp_mono (fun a' w' h => ?_) hS)
      obtain ⟨v, rfl, hR, hSi, hp, hG⟩ := h
      exact next v w' hR hSi hp hG
    · rename_i hw
      rw [if_neg hw] at hS
      exact next undef w (hRr _) (fun _ => hSr _ _) (fun _ => rfl) hS
/-- The law: each operation is shown once, whatever came before it but its own befores. -/
theorem rj_region {id : Nat} (rd : Nat → List Nat) (pure : Nat → Bool) (us : Nat → List Nat) (kp : Nat → Bool) (G : Nat → List Value → World → Prop) (R : World → World → Prop) (S : Nat → World → World → Prop) (J : Nat → World → Prop) (hm : P.follows .mixedOrders = true) (hck : rgCheck l rd = true) (hus : rsUses l us = true)
    (hJ0 : ∀ tk n, tk < l.length → J tk { w0 with drawn := n }) (hRd : ∀ n, R w0 { w0 with drawn := n }) (hRr : ∀ A, R A A) (hSr : ∀ i A, S i A A) (hRt : ∀ A B C, R A B → R B C → R A C) (hstab : ∀ k i, k < l.length → i < l.length → rsNeeds l pure us kp k i = true → ∀ vs w w', G k vs w → R w w' → S i w w' → G k vs w') (hJs : ∀ tk i, tk < l.length → i < l.length → rjNeeds l pure tk i = true → ∀ w w', J tk w → R w w' → S i w w' → J tk w')
    (hstep : ∀ (i : Nat) o, l[i]? = some o → ∀ a w, R w0 w → RgFrame l a0 a → (∀ j ∈ us i, G j (valsOf rd j a) w) → (∀ tk p, l[tk]? = some p → (tk = i ∨ i ∈ befores p) → J tk w) → RsStep P l Q rd pure G R S i o a w)
    (hend : ∀ a w, R w0 w → RgFrame l a0 a → (∀ i, i < l.length → kp i = true → G i (valsOf rd i a) w) → Q .normal a w) : (Code.region id l.toArray true).wp P Q a0 w0 := by
  refine wp_region_any hm (rj_any (w0 := w0) (a0 := a0) hck hus hRr hSr hRt hstab hJs hstep hend _ _ _ _ ?_ ?_)
  · unfold unlisted
    refine Nat.le_trans List.countP_le_length ?_
    simp
  · refine ⟨by simp, fun i o ho h => ?_, ⟨rfl, rfl, fun _ _ => rfl⟩, hRd _, fun i hi h _ => ?_, fun tk htk _ => hJ0 tk _ htk⟩
    · rw [Array.getElem?_replicate] at h
      split at h <;> cases h
    · rw [Array.getElem?_replicate] at h
      split at h <;> cases h
end
end Go.Proofs.YtkbmpkdflgimmaaDoor
/- The contract of without: a book without some of its soundings. (Printed by genwithout.py.) -/
namespace Go.Proofs.YtkbmpkdflgimmaaDoor
open Go.RowKit Go.Shelf

def rdWo (i : Nat) : List Nat := match i with
  | 0 => [20] | 1 => [21] | 2 => [22] | 3 => [23] | 4 => [24] | 5 => [25] | 6 => [26] | 7 => [27] | 8 => [28] | 9 => [29] | _ => []
def pureWo (i : Nat) : Bool := match i with
  | 7 => false | 8 => false | 10 => false | _ => true
def usWo (i : Nat) : List Nat := match i with
  | 1 => [0] | 3 => [2] | 5 => [3, 4] | 6 => [5] | 7 => [6] | 8 => [1, 7] | 10 => [8, 9] | _ => []
def kpWo (i : Nat) : Bool := match i with
  | 10 => true | _ => false
/-- The copy of the book, with the list v. -/
abbrev withV (B : Book) (ta : Option Addr) (tc : Nat) (v : Value) : Array Value := #[.slice ta B.tides.length tc, i64 B.s0.fl, i64 B.s0.fh, i64 B.s0.lo, i64 B.s0.hi, i64 B.s1.fl, i64 B.s1.fh, i64 B.s1.lo, i64 B.s1.hi, i64 B.el, i64 B.eh, i64 B.sink, i64 B.under, v]
/-- What the round's region does: z, x, y: where the new memory begins, the book, its copy; v holds the list l; d is appended. -/
def gWo (z xb yb sb sq : Nat) (cy : Array Value) (sa : Option Addr) (sl sc k : Nat) (v : Value) (l : List Sound) (d : Sound) (i : Nat) (vs : List Value) (W : World) : Prop := match i with
  | 0 => vs = [.pointer (some ⟨yb, 13, none⟩)]
  | 1 => vs = [v]
  | 2 => vs = [.pointer (some ⟨xb, 13, none⟩)]
  | 3 => vs = [.slice sa sl sc]
  | 4 => vs = [i64 k]
  | 5 => vs = [.pointer (some ⟨sb, sq + k * 3, none⟩)]
  | 6 => vs = [.agg #[i64 d.hour, i64 d.shore, i64 d.deep]]
  | 7 => ∃ g, vs = [.slice (some ⟨g, 0, none⟩) 1 1] ∧ z ≤ g ∧ W.heap[g]? = some (.cells #[i64 d.hour, i64 d.shore, i64 d.deep] 70 (0, 0))
  | 8 => ∃ v', vs = [v'] ∧ W.ownsRow z 70 3 v' (l.length + 1) (flatS (l ++ [d]))
  | 9 => vs = [.pointer (some ⟨yb, 13, none⟩)]
  | 10 => ∃ v', W.heap[yb]? = some (.cells (cy.setIfInBounds 13 v') 30 (0, 0)) ∧ W.ownsRow z 70 3 v' (l.length + 1) (flatS (l ++ [d]))
  | _ => True
def SWo (yb : Nat) (i : Nat) (w w' : World) : Prop := match i with
  | 7 => Below w.heap.size w w'
  | 8 => w'.heap[yb]? = w.heap[yb]?
  | _ => True
def jWo (z yb : Nat) (B : Book) (ta : Option Addr) (tc : Nat) (v : Value) (l : List Sound) (tk : Nat) (W : World) : Prop := match tk with
  | 8 => W.ownsRow z 70 3 v l.length (flatS l)
  | 10 => W.heap[yb]? = some (.cells (withV B ta tc v) 30 (0, 0))
  | _ => True
theorem set13 (B : Book) (ta : Option Addr) (tc : Nat) (sa : Option Addr) (sc : Nat) (v v' : Value) : ((bookCells B ta tc sa sc).setIfInBounds 13 v).setIfInBounds 13 v' = (bookCells B ta tc sa sc).setIfInBounds 13 v' := rfl
theorem slice_of_row {w : World} {z : Nat} {e : TypeId} {s : Nat} {v : Value} {n : Nat} {xs : List Value} (h : w.ownsRow z e s v n xs) : ∃ a c, v = .slice a n c := by
  rcases h.2 with ⟨rfl, rfl⟩ | ⟨g, cap, _, rfl, _⟩
  · exact ⟨none, 0, rfl⟩
  · exact ⟨_, cap, rfl⟩
set_option maxRecDepth 100000 in
set_option maxHeartbeats 4000000 in
theorem without_any (B : Book) (tb tq : Nat) (ta : Option Addr) (tc : Nat) (sb sq : Nat) (sa : Option Addr) (sc : Nat) (lv : Value) (but : List Int) (w : World) (hT : SpansAt w.heap.size w tb tq ta B.tides) (hS : SoundsAt w.heap.size w sb sq sa B.sounds) (hL : ListV w lv but) (hl : B.sounds.length ≤ 100) :
    Calls Tryd.prog 46 #[bookVal B ta tc sa sc, lv] w (BookPost (lessS B but) w) := by
  have hb0 : Below w.heap.size w (((w.alloc (.cells (bookCells B ta tc sa sc) 30)).alloc (.cells zero30 30)).alloc (.cells zero30 30)) := (((Below.refl _ w).alloc (Nat.le_refl _) _).alloc (by simp <;> omega) _).alloc (by simp <;> omega) _
  have hx0 : ((w.alloc (.cells (bookCells B ta tc sa sc) 30)).alloc (.cells zero30 30)).heap[w.heap.size]? = some (.cells (bookCells B ta tc sa sc) 30 (0, 0)) := (Below.heap_alloc _ _ _ (by simp <;> omega)).trans (heap_alloc_new w _)
  have h1 : (((w.alloc (.cells (bookCells B ta tc sa sc) 30)).alloc (.cells zero30 30)).alloc (.cells zero30 30)).heap[w.heap.size]? = some (.cells (bookCells B ta tc sa sc) 30 (0, 0)) := (Below.heap_alloc _ _ _ (by simp <;> omega)).trans hx0
  have h2 : (((w.alloc (.cells (bookCells B ta tc sa sc) 30)).alloc (.cells zero30 30)).alloc (.cells zero30 30)).heap[w.heap.size + 1]? = some (.cells zero30 30 (0, 0)) := (Below.heap_alloc _ _ _ (by simp <;> omega)).trans (heap_new_at _ _ _ (by simp))
  have h3 : (((w.alloc (.cells (bookCells B ta tc sa sc) 30)).alloc (.cells zero30 30)).alloc (.cells zero30 30)).heap[w.heap.size + 2]? = some (.cells zero30 30 (0, 0)) := heap_new_at _ _ _ (by simp)
  have hst := SetAt.row (((w.alloc (.cells (bookCells B ta tc sa sc) 30)).alloc (.cells zero30 30)).alloc (.cells zero30 30)) (w.heap.size + 2) (bookCells B ta tc sa sc)
  have hy1 : ((((w.alloc (.cells (bookCells B ta tc sa sc) 30)).alloc (.cells zero30 30)).alloc (.cells zero30 30)).setRow (w.heap.size + 2) (bookCells B ta tc sa sc)).heap[w.heap.size + 2]? = some (.cells (bookCells B ta tc sa sc) 30 (0, 0)) := setRow_heap _ _ _ _ _ _ h3
  have hyc1 := cells_of hy1
  have hyf1 := frozen_of hy1
  have hyl1 := (Array.getElem?_eq_some_iff.1 hy1).1
  have hsz : (((w.alloc (.cells (bookCells B ta tc sa sc) 30)).alloc (.cells zero30 30)).alloc (.cells zero30 30)).heap.size = w.heap.size + 3 := by simp
  obtain ⟨lb, lo, la, lc, rfl, hlc, hLI⟩ := hL
  go_enter Tryd.func46, Tryd.ntmps46
  go_wp2_with (first | (refine ld30 rfl _ rfl _ _ rfl hx0 rfl ?_) | (refine st30 rfl _ _ rfl _ (bookCells B ta tc sa sc) zero30 rfl rfl h3 rfl rfl (by simp [Value.oneCell']) ?_))
  go_loopw [6] (fun i wr => ∃ (k : Nat) (v : Value), k ≤ B.sounds.length ∧ i = .int .i64 k ∧ w.heap.size + 3 ≤ wr.heap.size ∧ Below w.heap.size w wr ∧ wr.heap[w.heap.size]? = some (.cells (bookCells B ta tc sa sc) 30 (0, 0)) ∧ wr.heap[w.heap.size + 1]? = some (.cells zero30 30 (0, 0)) ∧ wr.heap[w.heap.size + 2]? = some (.cells (withV B ta tc v) 30 (0, 0)) ∧ wr.ownsRow (w.heap.size + 3) 70 3 v (dropS B.sounds but k).length (flatS (dropS B.sounds but k))) (fun i _ => B.sounds.length - (intOf i).toNat)
  case atStart =>
    exact ⟨0, .slice none 0 0, Nat.zero_le _, rfl, by simp, (hst.below (Nat.le_add_right _ 2) hb0).setCell (p := ⟨w.heap.size + 2, 13, none⟩) (by show w.heap.size ≤ w.heap.size + 2; omega) _, (Below.heap_setCell _ _ _ _ (by show w.heap.size ≠ w.heap.size + 2; omega)).trans ((hst.other _ (by omega)).trans h1), (Below.heap_setCell _ _ _ _ (by show w.heap.size + 1 ≠ w.heap.size + 2; omega)).trans ((hst.other _ (by omega)).trans h2), set_book' 13 hy1 _, World.ownsRow_nil _ _ _ _⟩
  case round =>
    clear hx0 h1 h2 h3 hst hy1 hyc1 hyf1 hyl1 hsz hb0
    obtain ⟨k, v, hk, rfl, hsz, hbw, hx, hz, hy, hown⟩ := hrel
    have hxc := cells_of hx
    have hxl := (Array.getElem?_eq_some_iff.1 hx).1
    by_cases hlt : k < B.sounds.length
    · have hlt' : (k : Int) < (B.sounds.length : Int) := by omega
      have hat := at_any w.heap.size lb lo la lc but k wr (hLI.same (Same.of_below hbw))
      have hsucc := Lib.hid (dropS_succ B.sounds but k hlt)
      have hmem := idxI_mem but k
      by_cases hin : (k : Int) ∈ but
      · have hd : decide (idxI but k < 0) = false := by have := hmem.2 hin; simp; omega
        have hs2 : Hid (dropS B.sounds but (k + 1) = dropS B.sounds but k) := by
          show _ = _
          rw [hsucc.out, if_pos hin, List.append_nil]
        clear hmem hin
        go_wp2_with (go_at_call 44; refine hat.mono ?_; rintro e w2 ⟨rfl, rfl⟩)
        go_roundw
        case rel => exact ⟨k + 1, v, by omega, by go_num, hsz, hbw, hx, hz, hy, by rw [hs2.out]; exact hown⟩
        case measure => simp [intOf]; omega
      · have hd : decide (idxI but k < 0) = true := by have : ¬ 0 ≤ idxI but k := fun h => hin (hmem.1 h); simp; omega
        have hs2 : Hid (dropS B.sounds but (k + 1) = dropS B.sounds but k ++ [B.sounds[k]]) := by
          show _ = _
          rw [hsucc.out, if_neg hin]
        clear hmem hin
        have hdl := dropS_len B.sounds but k
        have hSw := hS.same (Same.of_below hbw)
        have hi28 : ∀ W, (Instr.indexAt 28 (.slice sa B.sounds.length sc) (.int .i64 (k : Int))).run Tryd.prog W = .ok (.pointer (some ⟨sb, sq + k * 3, none⟩)) W := fun W => idx28 W (hSw.at_ (ne_nil_of_lt hlt)) hlt
        go_wp2_with (go_at_call 44; refine hat.mono ?_; rintro e w2 ⟨rfl, rfl⟩)
        refine rj_region rdWo pureWo usWo kpWo (gWo (w.heap.size + 3) w.heap.size (w.heap.size + 2) sb sq (withV B ta tc v) sa B.sounds.length sc k v (dropS B.sounds but k) B.sounds[k]) (RY (w.heap.size + 3) (w.heap.size + 2) 13) (SWo (w.heap.size + 2)) (jWo (w.heap.size + 3) (w.heap.size + 2) B ta tc v (dropS B.sounds but k)) (by kernel_rfl) (by kernel_rfl) (by kernel_rfl) ?_ (fun n => RY.drawn _ _ _ _ n) (RY.refl _ _ _) (fun i A => by unfold SWo; split <;> first | exact Below.refl _ _ | rfl | trivial) (fun _ _ _ => RY.trans) ?_ ?_ ?_ ?_
        · intro tk nd htk
          match tk, htk with
          | 8, _ => exact ownsRow_below hown (BR.drawn _ _)
          | 10, _ => exact hy
          | 0, _ => trivial
          | 1, _ => trivial
          | 2, _ => trivial
          | 3, _ => trivial
          | 4, _ => trivial
          | 5, _ => trivial
          | 6, _ => trivial
          | 7, _ => trivial
          | 9, _ => trivial
          | _ + 11, htk => exact absurd htk (by simp)
        · intro kk i hk hi hn vs wA wB hG hR hS'
          match kk, hk, hn, hG with
          | 0, _, _, hG => exact hG
          | 1, _, _, hG => exact hG
          | 2, _, _, hG => exact hG
          | 3, _, _, hG => exact hG
          | 4, _, _, hG => exact hG
          | 5, _, _, hG => exact hG
          | 6, _, _, hG => exact hG
          | 7, _, hn, _ =>
            match i, hi, hn with
            | 0, _, hn => exact absurd (show false = true from hn) (by decide)
            | 1, _, hn => exact absurd (show false = true from hn) (by decide)
            | 2, _, hn => exact absurd (show false = true from hn) (by decide)
            | 3, _, hn => exact absurd (show false = true from hn) (by decide)
            | 4, _, hn => exact absurd (show false = true from hn) (by decide)
            | 5, _, hn => exact absurd (show false = true from hn) (by decide)
            | 6, _, hn => exact absurd (show false = true from hn) (by decide)
            | 7, _, hn => exact absurd (show false = true from hn) (by decide)
            | 8, _, hn => exact absurd (show false = true from hn) (by decide)
            | 9, _, hn => exact absurd (show false = true from hn) (by decide)
            | 10, _, hn => exact absurd (show false = true from hn) (by decide)
            | _ + 11, hi, _ => exact absurd hi (by simp)
          | 8, _, hn, _ =>
            match i, hi, hn with
            | 0, _, hn => exact absurd (show false = true from hn) (by decide)
            | 1, _, hn => exact absurd (show false = true from hn) (by decide)
            | 2, _, hn => exact absurd (show false = true from hn) (by decide)
            | 3, _, hn => exact absurd (show false = true from hn) (by decide)
            | 4, _, hn => exact absurd (show false = true from hn) (by decide)
            | 5, _, hn => exact absurd (show false = true from hn) (by decide)
            | 6, _, hn => exact absurd (show false = true from hn) (by decide)
            | 7, _, hn => exact absurd (show false = true from hn) (by decide)
            | 8, _, hn => exact absurd (show false = true from hn) (by decide)
            | 9, _, hn => exact absurd (show false = true from hn) (by decide)
            | 10, _, hn => exact absurd (show false = true from hn) (by decide)
            | _ + 11, hi, _ => exact absurd hi (by simp)
          | 9, _, _, hG => exact hG
          | 10, _, hn, _ =>
            match i, hi, hn with
            | 0, _, hn => exact absurd (show false = true from hn) (by decide)
            | 1, _, hn => exact absurd (show false = true from hn) (by decide)
            | 2, _, hn => exact absurd (show false = true from hn) (by decide)
            | 3, _, hn => exact absurd (show false = true from hn) (by decide)
            | 4, _, hn => exact absurd (show false = true from hn) (by decide)
            | 5, _, hn => exact absurd (show false = true from hn) (by decide)
            | 6, _, hn => exact absurd (show false = true from hn) (by decide)
            | 7, _, hn => exact absurd (show false = true from hn) (by decide)
            | 8, _, hn => exact absurd (show false = true from hn) (by decide)
            | 9, _, hn => exact absurd (show false = true from hn) (by decide)
            | 10, _, hn => exact absurd (show false = true from hn) (by decide)
            | _ + 11, hi, _ => exact absurd hi (by simp)
          | _ + 11, hk, _, _ => exact absurd hk (by simp)
        · intro tk i htk hi hn wA wB hJ hR hS'
          match tk, htk, hn, hJ with
          | 8, _, hn, hJ =>
            match i, hi, hn, hS' with
            | 0, _, hn, _ => exact absurd (show false = true from hn) (by decide)
            | 1, _, hn, _ => exact absurd (show false = true from hn) (by decide)
            | 2, _, hn, _ => exact absurd (show false = true from hn) (by decide)
            | 3, _, hn, _ => exact absurd (show false = true from hn) (by decide)
            | 4, _, hn, _ => exact absurd (show false = true from hn) (by decide)
            | 5, _, hn, _ => exact absurd (show false = true from hn) (by decide)
            | 6, _, hn, _ => exact absurd (show false = true from hn) (by decide)
            | 7, _, _, hS' => exact ownsRow_below hJ hS'
            | 8, _, hn, _ => exact absurd (show false = true from hn) (by decide)
            | 9, _, hn, _ => exact absurd (show false = true from hn) (by decide)
            | 10, _, hn, _ => exact absurd (show false = true from hn) (by decide)
            | _ + 11, hi, _, _ => exact absurd hi (by simp)
          | 10, _, hn, hJ =>
            match i, hi, hn, hS' with
            | 0, _, hn, _ => exact absurd (show false = true from hn) (by decide)
            | 1, _, hn, _ => exact absurd (show false = true from hn) (by decide)
            | 2, _, hn, _ => exact absurd (show false = true from hn) (by decide)
            | 3, _, hn, _ => exact absurd (show false = true from hn) (by decide)
            | 4, _, hn, _ => exact absurd (show false = true from hn) (by decide)
            | 5, _, hn, _ => exact absurd (show false = true from hn) (by decide)
            | 6, _, hn, _ => exact absurd (show false = true from hn) (by decide)
            | 7, _, _, hS' => exact (Below.block hS' _ (Array.getElem?_eq_some_iff.1 hJ).1).trans hJ
            | 8, _, _, hS' => exact Eq.trans hS' hJ
            | 9, _, hn, _ => exact absurd (show false = true from hn) (by decide)
            | 10, _, hn, _ => exact absurd (show false = true from hn) (by decide)
            | _ + 11, hi, _, _ => exact absurd hi (by simp)
          | 0, _, _, _ => trivial
          | 1, _, _, _ => trivial
          | 2, _, _, _ => trivial
          | 3, _, _, _ => trivial
          | 4, _, _, _ => trivial
          | 5, _, _, _ => trivial
          | 6, _, _, _ => trivial
          | 7, _, _, _ => trivial
          | 9, _, _, _ => trivial
          | _ + 11, htk, _, _ => exact absurd htk (by simp)
        · intro i op ho act wA hR hF hD hJ
          have sz : act.tmps.size = 31 := hF.size
          have hzA : w.heap.size + 3 ≤ wA.heap.size := Nat.le_trans hsz hR.size
          have hxA := (hR.old w.heap.size (by omega) (by omega)).trans hx
          have hSA := hS.same (w' := wA) ⟨by omega, fun k hk => (hR.old k (by omega) (by omega)).trans (hbw.block k hk)⟩
          have hxc := cells_of hxA
          obtain ⟨i0, hi, hz0, hz1, hzz⟩ := info_parts info70
          have hsl := hS.len
          match i, ho, hD, hJ with
          | 0, ho, hD, hJ =>
            cases ho
            have e5 := slot_tmps (show slotOf act 5 = .pointer (some ⟨w.heap.size + 2, 0, none⟩) from hF.slot 5 (by kernel_rfl))
            exact rsw_val (wanted_none rfl) (.pointer (some ⟨w.heap.size + 2, 13, none⟩)) (by simp [go_sem, e5]) (RY.refl _ _ _ _) trivial (congrArg (fun v => [v]) (slotOf_same act 20 _ (by omega)))
          | 1, ho, hD, hJ =>
            cases ho
            have e20 := slot_tmps (List.cons.inj (hD 0 (by decide))).1
            have hyA : wA.heap[w.heap.size + 2]? = _ := hJ 10 _ rfl (.inr (by decide))
            have hyc := cells_of hyA
            exact rsw_val (wanted_none rfl) v (by simp [go_sem, e20, hyc]) (RY.refl _ _ _ _) trivial (congrArg (fun v => [v]) (slotOf_same act 21 _ (by omega)))
          | 2, ho, hD, hJ =>
            cases ho
            have e2 := slot_tmps (show slotOf act 2 = .pointer (some ⟨w.heap.size, 0, none⟩) from hF.slot 2 (by kernel_rfl))
            exact rsw_val (wanted_none rfl) (.pointer (some ⟨w.heap.size, 13, none⟩)) (by simp [go_sem, e2]) (RY.refl _ _ _ _) trivial (congrArg (fun v => [v]) (slotOf_same act 22 _ (by omega)))
          | 3, ho, hD, hJ =>
            cases ho
            have e22 := slot_tmps (List.cons.inj (hD 2 (by decide))).1
            exact rsw_val (wanted_none rfl) (.slice sa B.sounds.length sc) (by simp [go_sem, e22, hxc]) (RY.refl _ _ _ _) trivial (congrArg (fun v => [v]) (slotOf_same act 23 _ (by omega)))
          | 4, ho, hD, hJ =>
            cases ho
            have e6 := slot_tmps (show slotOf act 6 = i64 k from hF.slot 6 (by kernel_rfl))
            exact rsw_val (wanted_none rfl) (i64 k) (by simp [go_sem, e6]) (RY.refl _ _ _ _) trivial (congrArg (fun v => [v]) (slotOf_same act 24 _ (by omega)))
          | 5, ho, hD, hJ =>
            cases ho
            have e23 := slot_tmps (List.cons.inj (hD 3 (by decide))).1
            have e24 := slot_tmps (List.cons.inj (hD 4 (by decide))).1
            exact rsw_val (wanted_none rfl) (.pointer (some ⟨sb, sq + k * 3, none⟩)) (by simp [go_sem, e23, e24, hi28]) (RY.refl _ _ _ _) trivial (congrArg (fun v => [v]) (slotOf_same act 25 _ (by omega)))
          | 6, ho, hD, hJ =>
            cases ho
            have e25 := slot_tmps (List.cons.inj (hD 5 (by decide))).1
            have c1 := hSA.hour k hlt
            have c2 := hSA.shore k hlt
            have c3 := hSA.deep k hlt
            exact rsw_val (wanted_none rfl) (.agg #[i64 B.sounds[k].hour, i64 B.sounds[k].shore, i64 B.sounds[k].deep]) (by simp [go_sem, e25, c1, c2, c3]) (RY.refl _ _ _ _) trivial (congrArg (fun v => [v]) (slotOf_same act 26 _ (by omega)))
          | 7, ho, hD, hJ =>
            cases ho
            have e26 := slot_tmps (List.cons.inj (hD 6 (by decide))).1
            refine rsw_wp (wanted_none rfl) rfl (wp_of_run (v := .slice (some ⟨wA.heap.size, 0, none⟩) 1 1) (w' := wA.alloc (.cells #[i64 B.sounds[k].hour, i64 B.sounds[k].shore, i64 B.sounds[k].deep] 70)) (by simp [go_sem, e26]) ?_)
            exact ⟨_, rfl, RY.of_below hzA ((Below.refl _ _).alloc (Nat.le_refl _) _), (Below.refl _ _).alloc (Nat.le_refl _) _, _, congrArg (fun v => [v]) (slotOf_same act 27 _ (by omega)), hzA, heap_alloc_new _ _⟩
          | 8, ho, hD, hJ =>
            cases ho
            have d21 := hD 1 (by decide)
            have hownA : wA.ownsRow (w.heap.size + 3) 70 3 v _ _ := hJ 8 _ rfl (.inl rfl)
            obtain ⟨g, d27, _, hg⟩ := hD 7 (by decide)
            have hgc := cells_of hg
            have hnews : ∀ j u, [i64 B.sounds[k].hour, i64 B.sounds[k].shore, i64 B.sounds[k].deep][j]? = some u → wA.cell? ((⟨g, 0, none⟩ : Addr).add j) = some u := fun j u hu => by
              rw [addr_add, hgc]
              simpa using hu
            obtain ⟨v', w', hrun, r1, r2, _⟩ := run_append_own (P := Tryd.prog) wA (w.heap.size + 3) 28 28 70 i0 (.agg #[i64 0, i64 0, i64 0]) 3 24 Tryd.underlying28 hi hz0 hz1 hzz rfl (by decide) v (dropS B.sounds but k).length (flatS (dropS B.sounds but k)) hownA ⟨g, 0, none⟩ 1 1 [i64 B.sounds[k].hour, i64 B.sounds[k].shore, i64 B.sounds[k].deep] rfl hnews (by simp [Value.oneCell']) (by unfold maxLen; omega) (by omega) hzA
            refine rsw_wp (wanted_none rfl) rfl (wp_of_run (v := v') (w' := w') (ex_append _ _ 28 rfl ?_) ?_)
            · rw [show act.eval (.tmp 21) = _ from (List.cons.inj d21).1, show act.eval (.tmp 27) = _ from (List.cons.inj d27).1]
              exact hrun
            · exact ⟨_, rfl, RY.of_grown hzA (by omega) (fun k hk => (hownA.lt k hk).1) r2, r2.block _ (by omega) (fun e => by have := (hownA.lt _ e.symm).1; omega), _, congrArg (fun v => [v]) (slotOf_same act 28 _ (by omega)), by rw [flatS_snoc]; exact r1⟩
          | 9, ho, hD, hJ =>
            cases ho
            have e5 := slot_tmps (show slotOf act 5 = .pointer (some ⟨w.heap.size + 2, 0, none⟩) from hF.slot 5 (by kernel_rfl))
            exact rsw_val (wanted_none rfl) (.pointer (some ⟨w.heap.size + 2, 13, none⟩)) (by simp [go_sem, e5]) (RY.refl _ _ _ _) trivial (congrArg (fun v => [v]) (slotOf_same act 29 _ (by omega)))
          | 10, ho, hD, hJ =>
            cases ho
            obtain ⟨v', d28, hown'⟩ := hD 8 (by decide)
            have e28 := slot_tmps (List.cons.inj d28).1
            have e29 := slot_tmps (List.cons.inj (hD 9 (by decide))).1
            obtain ⟨c', hc', hcs, hcj⟩ := hR.book _ hy
            have hcc := cells_of hc'
            have hcf := frozen_of hc'
            have h13 : c'[13]? = some (c'[13]'(by rw [hcs]; exact (show 13 < 14 by decide))) := Array.getElem?_eq_getElem _
            obtain ⟨ao, cp, rfl⟩ := slice_of_row hown'
            refine rsw_wp (wanted_none rfl) rfl (wp_of_skip (w' := wA.setCell ⟨w.heap.size + 2, 13, none⟩ (.slice ao ((dropS B.sounds but k).length + 1) cp)) (by simp [go_sem, e28, e29, hcc, hcf, h13]) ?_)
            refine ⟨_, rfl, RY.set hc', trivial, _, ?_, ownsRow_keep (y := w.heap.size + 2) hown' (by omega) (fun k hk hky => Below.heap_setCell _ _ _ k hky)⟩
            rw [set_book' 13 hc' _, set_same hcs hcj]
          | _ + 11, ho, _, _ => cases ho
        · intro act wA hR hF hA
          obtain ⟨v', hc, hown'⟩ := hA 10 (by decide) rfl
          have f0 : slotOf act 0 = bookVal B ta tc sa sc := hF.slot 0 (by kernel_rfl)
          have f1 : slotOf act 1 = .slice la but.length lc := hF.slot 1 (by kernel_rfl)
          have f2 : slotOf act 2 = .pointer (some ⟨w.heap.size, 0, none⟩) := hF.slot 2 (by kernel_rfl)
          have f3 : slotOf act 3 = undef := hF.slot 3 (by kernel_rfl)
          have f4 : slotOf act 4 = .pointer (some ⟨w.heap.size + 1, 0, none⟩) := hF.slot 4 (by kernel_rfl)
          have f5 : slotOf act 5 = .pointer (some ⟨w.heap.size + 2, 0, none⟩) := hF.slot 5 (by kernel_rfl)
          have f6 : slotOf act 6 = i64 k := hF.slot 6 (by kernel_rfl)
          have f7 : slotOf act 7 = .agg (bookCells B ta tc sa sc) := hF.slot 7 (by kernel_rfl)
          have f8 : slotOf act 8 = .pointer (some ⟨w.heap.size + 2, 13, none⟩) := hF.slot 8 (by kernel_rfl)
          have f30 : slotOf act 30 = undef := hF.slot 30 (by kernel_rfl)
          rw [act_eta act 31 hF.size hF.defers]
          simp only [show List.range 31 = [0, 1, 2, 3, 4, 5, 6, 7, 8, 9, 10, 11, 12, 13, 14, 15, 16, 17, 18, 19, 20, 21, 22, 23, 24, 25, 26, 27, 28, 29, 30] from rfl, List.map_cons, List.map_nil, f0, f1, f2, f3, f4, f5, f6, f7, f8, f30]
          clear hA hF f0 f1 f2 f3 f4 f5 f6 f7 f8 f30
          have hbA : Below w.heap.size w wA := ⟨hR.os.trans hbw.os, hR.tape.trans hbw.tape, hR.output.trans hbw.output, Nat.le_trans hbw.size hR.size, fun k hk => (hR.old k (by omega) (by omega)).trans (hbw.block k hk)⟩
          have hxA := (hR.old w.heap.size (by omega) (by omega)).trans hx
          have hzA := (hR.old (w.heap.size + 1) (by omega) (by omega)).trans hz
          have hsA : w.heap.size + 3 ≤ wA.heap.size := Nat.le_trans hsz hR.size
          clear hR hsz hbw hx hz hy hown
          go_wp2_with fail
          go_roundw
          case rel => first | exact ⟨k + 1, v', by omega, by go_num, hsA, hbA, hxA, hzA, hc, by rw [hs2.out]; simpa using hown'⟩ | ((repeat apply Exists.intro); refine ⟨?_, rfl⟩; exact ⟨k + 1, v', by omega, by go_num, hsA, hbA, hxA, hzA, hc, by rw [hs2.out]; simpa using hown'⟩)
          case measure => simp [intOf]; omega
    · have hlt' : ¬ (k : Int) < (B.sounds.length : Int) := by omega
      obtain rfl : k = B.sounds.length := by omega
      have hdl := dropS_len B.sounds but B.sounds.length
      obtain ⟨g, a, c, rfl, hSn⟩ := sounds_row hown (by omega)
      have hset := SetAt.row wr (w.heap.size + 1) (withV B ta tc (.slice a (dropS B.sounds but B.sounds.length).length c))
      have hbF := hset.below (Nat.le_add_right _ 1) hbw
      have hTF := (hT.same (Same.of_below hbF)).up hbF.size
      have hne : dropS B.sounds but B.sounds.length ≠ [] → g ≠ w.heap.size + 1 := fun h0 e => by
        have ha := hSn.at_ h0
        subst ha
        have := (hown.lt g rfl).1
        omega
      have hSF := sound_set (z := w.heap.size + 1) (cs := withV B ta tc (.slice a (dropS B.sounds but B.sounds.length).length c)) hSn hne
      clear hown hSn hbw hsz hdl
      go_wp2_with (first | (refine ld30 rfl _ rfl _ _ rfl hy rfl ?_) | (refine st30 rfl _ _ rfl _ (withV B ta tc (.slice a (dropS B.sounds but B.sounds.length).length c)) zero30 rfl rfl hz rfl rfl (by simp [Value.oneCell']) ?_))
      refine bodyPost_ret (results_cell_row rfl _ _ (w.heap.size + 1) 30 _ (0, 0) _ rfl (setRow_heap _ _ _ _ _ _ hz) Tryd.underlying30 rfl (by rw [size30]; rfl)) rfl ?_
      exact ⟨_, rfl, hbF, tb, tq, ta, tc, g, 0, a, c, rfl, hTF, hSF⟩
theorem without_v {B : Book} {v lv : Value} {but : List Int} {w : World} (hB : BookV w v B) (hL : ListV w lv but) (hl : B.sounds.length ≤ 100) : Calls Tryd.prog 46 #[v, lv] w (BookPost (lessS B but) w) := by
  obtain ⟨tb, tq, ta, tc, sb, sq, sa, sc, rfl, hT, hS⟩ := hB
  exact without_any B tb tq ta tc sb sq sa sc lv but w hT hS hL hl
end Go.Proofs.YtkbmpkdflgimmaaDoor
