/- A law for regions that draw their order: what each operation leaves is said by itself (G), and what others do afterwards does not undo it. -/
import Derived.Test.YtkbmpkdflgimmaaDoorQReg
import Derived.Orders
namespace Go.Proofs.YtkbmpkdflgimmaaDoor
open Go.RowKit

def slotOf (a : Act) (k : Nat) : Value := a.tmps.getD k undef
def valsOf (rd : Nat → List Nat) (i : Nat) (a : Act) : List Value := (rd i).map (slotOf a)
/-- The operations that come before operation o in every order. -/
def befores (o : Oper) : List Nat := (o.after.toList.filter fun e => Region.binds .any e).map (·.on)
structure RgFrame (l : List Oper) (a0 a : Act) : Prop where
  size : a.tmps.size = a0.tmps.size
  defers : a.defers = a0.defers
  slot : ∀ k, (l.all fun o => o.dst != some k) = true → slotOf a k = slotOf a0 k
def rgCheck (l : List Oper) (rd : Nat → List Nat) : Bool :=
  (List.range l.length).all fun i => match l[i]? with
    | none => true
    | some o => ((befores o).all fun j => decide (j < i)) && (List.range l.length).all fun k => match l[k]? with
      | none => true
      | some p => k == i || (match p.dst with | none => true | some d => !(rd i).contains d || (befores o).contains k)
def rgNeeds (l : List Oper) (pure : Nat → Bool) (i : Nat) : Bool := (List.range l.length).any fun k => k != i && !pure k && (match l[i]? with | none => true | some o => !(befores o).contains k)
section
variable {P : Program} {l : List Oper} {Q : Exit → Act → World → Prop} {a0 : Act} {w0 : World} {rd : Nat → List Nat} {pure : Nat → Bool} {G : Nat → List Value → World → Prop} {R : World → World → Prop}
/-- Operation i does what G says of it. -/
def RgStep (P : Program) (l : List Oper) (Q : Exit → Act → World → Prop) (rd : Nat → List Nat) (pure : Nat → Bool) (G : Nat → List Value → World → Prop) (R : World → World → Prop) (i : Nat) (o : Oper) (a : Act) (w : World) : Prop :=
  if Region.wanted o (yielded l.toArray a.tmps) = true then o.wp P a w (fun a' w' => ∃ v, a' = a.put o.dst v ∧ R w w' ∧ (pure i = true → w' = w) ∧ G i (valsOf rd i a') w') Q
  else G i (valsOf rd i (a.put o.dst undef)) w
structure RgInv (l : List Oper) (a0 : Act) (w0 : World) (rd : Nat → List Nat) (G : Nat → List Value → World → Prop) (R : World → World → Prop) (L : Array Bool) (a : Act) (w : World) : Prop where
  size : L.size = l.length
  closed : ∀ (i : Nat) o, l[i]? = some o → L[i]? = some true → ∀ j ∈ befores o, L[j]? = some true
  frame : RgFrame l a0 a
  rel : R w0 w
  has : ∀ (i : Nat), i < l.length → L[i]? = some true → G i (valsOf rd i a) w
theorem slotOf_put (a : Act) (d : Option Tmp) (v : Value) (k : Nat) (h : d ≠ some k) : slotOf (a.put d v) k = slotOf a k := by
  cases d with
  | none => rfl
  | some d =>
    have hne : d ≠ k := fun e => h (by rw [e])
    simp [slotOf, Act.put, Array.getD_eq_getD_getElem?, hne]
theorem RgFrame.put {a : Act} {o : Oper} (h : RgFrame l a0 a) (ho : o ∈ l) (v : Value) : RgFrame l a0 (a.put o.dst v) := by
  refine ⟨?_, ?_, fun k hk => ?_⟩
  · cases hd : o.dst with
    | none => simpa [Act.put] using h.size
    | some d => simpa [Act.put] using h.size
  · cases hd : o.dst with
    | none => simpa [Act.put] using h.defers
    | some d => simpa [Act.put] using h.defers
  · have := List.all_eq_true.1 hk o ho
    rw [slotOf_put _ _ _ _ (by simpa using this)]
    exact h.slot k hk
theorem countP_lt {m : List Nat} {p q : Nat → Bool} (h : ∀ x, q x = true → p x = true) (x : Nat) (hx : x ∈ m) (hp : p x = true) (hq : q x = false) : m.countP q < m.countP p := by
  induction m with
  | nil => cases hx
  | cons y m ih =>
    have hle : m.countP q ≤ m.countP p := List.countP_mono_left fun z _ => h z
    simp only [List.countP_cons]
    rcases List.mem_cons.1 hx with rfl | hx
    · simp [hp, hq]; omega
    · have := ih hx
      cases hqy : q y
      · simp; omega
      · have := h y hqy; simp [this]; omega
def unlisted (n : Nat) (L : Array Bool) : Nat := (List.range n).countP fun i => L[i]? == some false
theorem unlisted_set {n : Nat} {L : Array Bool} {i : Nat} (hi : i < n) (h : L[i]? = some false) : unlisted n (L.setIfInBounds i true) < unlisted n L := by
  refine countP_lt (fun x hx => ?_) i (List.mem_range.2 hi) (by simp [h]) ?_
  · rw [Array.getElem?_setIfInBounds] at hx
    split at hx
    · split at hx <;> simp at hx
    · exact hx
  · have hlt : i < L.size := (Array.getElem?_eq_some_iff.1 h).1
    simp [hlt]
theorem rg_step_inv {L : Array Bool} {a : Act} {w w' : World} {i : Nat} {o : Oper} {v : Value} (hck : rgCheck l rd = true) (hRt : ∀ A B C, R A B → R B C → R A C)
    (hstab : ∀ i, rgNeeds l pure i = true → ∀ vs w w', G i vs w → R w w' → G i vs w') (hI : RgInv l a0 w0 rd G R L a w) (ho : l[i]? = some o) (hun : L[i]? = some false)
    (hbef : ∀ j ∈ befores o, L[j]? = some true) (hR : R w w') (hp : pure i = true → w' = w) (hG : G i (valsOf rd i (a.put o.dst v)) w') : RgInv l a0 w0 rd G R (L.setIfInBounds i true) (a.put o.dst v) w' := by
  have hil : i < l.length := (List.getElem?_eq_some_iff.1 ho).1
  have hiL : i < L.size := by rw [hI.size]; exact hil
  have hset : ∀ j, L[j]? = some true → (L.setIfInBounds i true)[j]? = some true := fun j hj => by
    rw [Array.getElem?_setIfInBounds]
    split
    · simp
    · exact hj
  have hback : ∀ j, j ≠ i → (L.setIfInBounds i true)[j]? = some true → L[j]? = some true := fun j hne hj => by
    rw [Array.getElem?_setIfInBounds, if_neg (Ne.symm hne)] at hj
    exact hj
  refine ⟨by simpa using hI.size, fun k p hp' hk j hj => ?_, hI.frame.put (List.mem_of_getElem? ho) v, hRt _ _ _ hI.rel hR, fun k hk hkl => ?_⟩
  · by_cases hki : k = i
    · subst hki
      rw [ho] at hp'
      cases hp'
      exact hset j (hbef j hj)
    · exact hset j (hI.closed k p hp' (hback k hki hk) j hj)
  · by_cases hki : k = i
    · subst hki; exact hG
    · have hkL := hback k hki hkl
      have hold := hI.has k hk hkL
      obtain ⟨p, hpk⟩ : ∃ p, l[k]? = some p := ⟨_, List.getElem?_eq_getElem hk⟩
      have hnb : ¬ i ∈ befores p := fun hm => by
        have := hI.closed k p hpk hkL i hm
        rw [hun] at this
        cases this
      have hc := List.all_eq_true.1 hck k (List.mem_range.2 hk)
      simp only [hpk, Bool.and_eq_true] at hc
      have hc2 := List.all_eq_true.1 hc.2 i (List.mem_range.2 hil)
      simp only [ho] at hc2
      have hvals : valsOf rd k (a.put o.dst v) = valsOf rd k a := by
        unfold valsOf
        refine List.map_congr_left fun x hx => slotOf_put a o.dst v x (fun e => ?_)
        rw [e] at hc2
        simp at hc2
        rcases hc2 with h | h | h
        · exact hki h.symm
        · exact h hx
        · exact hnb h
      rw [hvals]
      cases hpi : pure i
      · refine hstab k ?_ _ _ _ hold hR
        unfold rgNeeds
        rw [List.any_eq_true]
        refine ⟨i, List.mem_range.2 hil, ?_⟩
        simp only [hpk]
        simp [hpi, hnb]
        exact fun e => hki e.symm
      · rw [hp hpi]; exact hold
theorem rg_any (hck : rgCheck l rd = true) (hRr : ∀ A, R A A) (hRt : ∀ A B C, R A B → R B C → R A C) (hstab : ∀ i, rgNeeds l pure i = true → ∀ vs w w', G i vs w → R w w' → G i vs w')
    (hstep : ∀ (i : Nat) o, l[i]? = some o → ∀ a w, R w0 w → RgFrame l a0 a → (∀ j ∈ befores o, G j (valsOf rd j a) w) → RgStep P l Q rd pure G R i o a w)
    (hend : ∀ a w, R w0 w → RgFrame l a0 a → (∀ i, i < l.length → G i (valsOf rd i a) w) → Q .normal a w) :
    ∀ (fuel : Nat) (L : Array Bool) (a : Act) (w : World), unlisted l.length L ≤ fuel → RgInv l a0 w0 rd G R L a w → wpAny P .any l.toArray Q fuel L a w := by
  have done : ∀ (L : Array Bool) (a : Act) (w : World), RgInv l a0 w0 rd G R L a w → Region.ready .any l.toArray L = [] → Q .normal a w := fun L a w hI hr => by
    have hall : ∀ n, n ≤ l.length → ∀ i, i < n → L[i]? = some true := by
      intro n
      induction n with
      | zero => intro _ i h; omega
      | succ n ih =>
        intro hn i hi
        have hprev := ih (by omega)
        rcases Nat.lt_or_ge i n with h | h
        · exact hprev i h
        · obtain rfl : i = n := by omega
          have hlt : i < L.size := by rw [hI.size]; omega
          obtain ⟨o, ho⟩ : ∃ o, l[i]? = some o := ⟨_, List.getElem?_eq_getElem (by omega)⟩
          cases hb : L[i]? with
          | none => rw [Array.getElem?_eq_none_iff] at hb; omega
          | some b =>
            cases b with
            | true => rfl
            | false =>
              exfalso
              have hc := List.all_eq_true.1 hck i (List.mem_range.2 (by omega))
              simp only [ho, Bool.and_eq_true] at hc
              have : i ∈ Region.ready .any l.toArray L := by
                rw [mem_ready]
                refine ⟨by simp [Array.getD_eq_getD_getElem?, hb], o, by simpa using ho, fun e he hbd => ?_⟩
                have hm : e.on ∈ befores o := List.mem_map.2 ⟨e, List.mem_filter.2 ⟨by simpa using he, hbd⟩, rfl⟩
                have := List.all_eq_true.1 hc.1 _ hm
                have := hprev e.on (by simpa using this)
                simp [Array.getD_eq_getD_getElem?, this]
              rw [hr] at this
              cases this
    exact hend a w hI.rel hI.frame fun i hi => hI.has i hi (hall l.length (Nat.le_refl _) i hi)
  intro fuel
  induction fuel with
  | zero =>
    intro L a w hf hI
    have hr : Region.ready .any l.toArray L = [] := by
      cases hr : Region.ready .any l.toArray L with
      | nil => rfl
      | cons i rest =>
        have hi : i ∈ Region.ready .any l.toArray L := by rw [hr]; exact List.mem_cons_self ..
        obtain ⟨h1, o, ho, _⟩ := mem_ready.1 hi
        have hil : i < l.length := by
          have := (Array.getElem?_eq_some_iff.1 ho).1
          simpa using this
        have hf' : L[i]? = some false := by
          have hlt : i < L.size := by rw [hI.size]; exact hil
          simp [Array.getD_eq_getD_getElem?, hlt] at h1 ⊢
          exact h1
        have := unlisted_set hil hf'
        omega
    exact ⟨hr, done L a w hI hr⟩
  | succ fuel ih =>
    intro L a w hf hI
    refine ⟨done L a w hI, fun i hi => ?_⟩
    obtain ⟨h1, o, ho, hall⟩ := mem_ready.1 hi
    have ho' : l[i]? = some o := by simpa using ho
    have hil : i < l.length := (List.getElem?_eq_some_iff.1 ho').1
    have hun : L[i]? = some false := by
      have hlt : i < L.size := by rw [hI.size]; exact hil
      simp [Array.getD_eq_getD_getElem?, hlt] at h1 ⊢
      exact h1
    have hbef : ∀ j ∈ befores o, L[j]? = some true := fun j hj => by
      obtain ⟨e, he, rfl⟩ := List.mem_map.1 hj
      obtain ⟨he1, he2⟩ := List.mem_filter.1 he
      have := hall e (by simpa using he1) he2
      cases hx : L[e.on]? with
      | none => simp [Array.getD_eq_getD_getElem?, hx] at this
      | some b => simp [Array.getD_eq_getD_getElem?, hx] at this; rw [this]
    have hc := List.all_eq_true.1 hck i (List.mem_range.2 hil)
    simp only [ho', Bool.and_eq_true] at hc
    have hS := hstep i o ho' a w hI.rel hI.frame (fun j hj => hI.has j (by have := List.all_eq_true.1 hc.1 j hj; simp at this; omega) (hbef j hj))
    unfold RgStep at hS
    unfold wpOp
    simp only [ho]
    have next : ∀ v w', R w w' → (pure i = true → w' = w) → G i (valsOf rd i (a.put o.dst v)) w' → wpAny P .any l.toArray Q fuel (L.setIfInBounds i true) (a.put o.dst v) w' := fun v w' hR hp hG =>
      ih _ _ _ (by have := unlisted_set hil hun; omega) (rg_step_inv hck hRt hstab hI ho' hun hbef hR hp hG)
    split
    · rename_i hw
      rw [if_pos hw] at hS
      refine .inl (Oper.wp_mono (fun a' w' h => ?_) hS)
      obtain ⟨v, rfl, hR, hp, hG⟩ := h
      exact next v w' hR hp hG
    · rename_i hw
      rw [if_neg hw] at hS
      exact next undef w (hRr _) (fun _ => rfl) hS
/-- The law: each operation is shown once, whatever came before it but its own befores. -/
theorem rg_region {id : Nat} (rd : Nat → List Nat) (pure : Nat → Bool) (G : Nat → List Value → World → Prop) (R : World → World → Prop) (hm : P.follows .mixedOrders = true) (hck : rgCheck l rd = true)
    (hRd : ∀ n, R w0 { w0 with drawn := n }) (hRr : ∀ A, R A A) (hRt : ∀ A B C, R A B → R B C → R A C) (hstab : ∀ i, rgNeeds l pure i = true → ∀ vs w w', G i vs w → R w w' → G i vs w')
    (hstep : ∀ (i : Nat) o, l[i]? = some o → ∀ a w, R w0 w → RgFrame l a0 a → (∀ j ∈ befores o, G j (valsOf rd j a) w) → RgStep P l Q rd pure G R i o a w)
    (hend : ∀ a w, R w0 w → RgFrame l a0 a → (∀ i, i < l.length → G i (valsOf rd i a) w) → Q .normal a w) : (Code.region id l.toArray true).wp P Q a0 w0 := by
  refine wp_region_any hm (rg_any (w0 := w0) (a0 := a0) hck hRr hRt hstab hstep hend _ _ _ _ ?_ ?_)
  · unfold unlisted
    refine Nat.le_trans List.countP_le_length ?_
    simp
  · refine ⟨by simp, fun i o ho h => ?_, ⟨rfl, rfl, fun _ _ => rfl⟩, hRd _, fun i hi h => ?_⟩
    · rw [Array.getElem?_replicate] at h
      split at h <;> cases h
    · rw [Array.getElem?_replicate] at h
      split at h <;> cases h
end
end Go.Proofs.YtkbmpkdflgimmaaDoor
