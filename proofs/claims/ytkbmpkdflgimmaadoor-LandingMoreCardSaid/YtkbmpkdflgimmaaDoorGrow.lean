/- Slices of soundings and of spans that a call makes itself; steps of regions that append to them. -/
import Derived.Test.YtkbmpkdflgimmaaDoorRG2
import Derived.Test.YtkbmpkdflgimmaaDoorPure5
namespace Go.Proofs.YtkbmpkdflgimmaaDoor
open Go.RowKit Go.Shelf

section
variable {P : Program} {l : List Oper} {Q : Exit → Act → World → Prop} {rd : Nat → List Nat} {pure : Nat → Bool} {G : Nat → List Value → World → Prop} {R : World → World → Prop} {S : Nat → World → World → Prop} {i : Nat} {o : Oper} {a : Act} {w : World}
theorem rsw_val (hw : Region.wanted o (yielded l.toArray a.tmps) = true) (v : Value) (h : (execOp a.eval o).run P w = .ok (.value v) w) (hR : R w w) (hS : S i w w) (hG : G i (valsOf rd i (a.put o.dst v)) w) : RsStep P l Q rd pure G R S i o a w := by
  unfold RsStep
  rw [if_pos hw]
  unfold Oper.wp
  rw [h]
  exact ⟨v, rfl, hR, fun _ => hS, fun _ => rfl, hG⟩
theorem rsw_wp (hw : Region.wanted o (yielded l.toArray a.tmps) = true) (hp : pure i = false) (h : o.wp P a w (fun a' w' => ∃ v, a' = a.put o.dst v ∧ R w w' ∧ S i w w' ∧ G i (valsOf rd i a') w') Q) : RsStep P l Q rd pure G R S i o a w := by
  unfold RsStep
  rw [if_pos hw]
  refine Oper.wp_mono ?_ h
  rintro a' w' ⟨v, h1, h2, h3, h4⟩
  exact ⟨v, h1, h2, fun _ => h3, (fun h => by rw [hp] at h; cases h), h4⟩
theorem rsw_call (hw : Region.wanted o (yielded l.toArray a.tmps) = true) (f : FuncId) (args : Array Value) (h : (execOp a.eval o).run P w = .ok (.enter f args) w) (hp : pure i = false)
    (hc : Calls P f args w fun e w' => ∃ v, e = .returned v ∧ R w w' ∧ S i w w' ∧ G i (valsOf rd i (a.put o.dst v)) w') : RsStep P l Q rd pure G R S i o a w := by
  unfold RsStep
  rw [if_pos hw]
  unfold Oper.wp
  rw [h]
  refine Calls.mono hc ?_
  rintro e w' ⟨v, rfl, hR, hS, hG⟩
  exact ⟨v, rfl, hR, fun _ => hS, (fun h => by rw [hp] at h; cases h), hG⟩
end
theorem set_book' {W : World} {g : Nat} {cs : Array Value} (k : Nat) (h : W.heap[g]? = some (.cells cs 30 (0, 0))) (v : Value) : (W.setCell ⟨g, k, none⟩ v).heap[g]? = some (.cells (cs.setIfInBounds k v) 30 (0, 0)) := by
  simp [World.setCell, Array.getElem?_modify, h]
theorem wp_of_skip {P : Program} {o : Oper} {a : Act} {w w' : World} {K : Act → World → Prop} {Q : Exit → Act → World → Prop} (h : (execOp a.eval o).run P w = .ok .skip w') (hK : K (a.put o.dst undef) w') : o.wp P a w K Q := by
  unfold Oper.wp
  rw [h]
  exact hK
/-- Below z nothing changes but field fi of the book in block y. -/
structure RY (z y fi : Nat) (w w' : World) : Prop where
  os : w'.os = w.os
  tape : w'.tape = w.tape
  output : w'.output = w.output
  size : w.heap.size ≤ w'.heap.size
  old : ∀ k, k < z → k ≠ y → w'.heap[k]? = w.heap[k]?
  book : ∀ c, w.heap[y]? = some (.cells c 30 (0, 0)) → ∃ c', w'.heap[y]? = some (.cells c' 30 (0, 0)) ∧ c'.size = c.size ∧ ∀ j, j ≠ fi → c'[j]? = c[j]?
theorem RY.refl (z y fi : Nat) (w : World) : RY z y fi w w := ⟨rfl, rfl, rfl, Nat.le_refl _, fun _ _ _ => rfl, fun c h => ⟨c, h, rfl, fun _ _ => rfl⟩⟩
theorem RY.drawn (z y fi : Nat) (w : World) (n : Nat) : RY z y fi w { w with drawn := n } := ⟨rfl, rfl, rfl, Nat.le_refl _, fun _ _ _ => rfl, fun c h => ⟨c, h, rfl, fun _ _ => rfl⟩⟩
theorem RY.trans {z y fi : Nat} {A B C : World} (h : RY z y fi A B) (k : RY z y fi B C) : RY z y fi A C :=
  ⟨k.os.trans h.os, k.tape.trans h.tape, k.output.trans h.output, Nat.le_trans h.size k.size, fun i hi hy => (k.old i hi hy).trans (h.old i hi hy), fun c hc => by
    obtain ⟨c1, h1, h2, h3⟩ := h.book c hc
    obtain ⟨c2, h4, h5, h6⟩ := k.book c1 h1
    exact ⟨c2, h4, h5.trans h2, fun j hj => (h6 j hj).trans (h3 j hj)⟩⟩
theorem RY.of_below {z y fi : Nat} {w w' : World} (hz : z ≤ w.heap.size) (hb : Below w.heap.size w w') : RY z y fi w w' :=
  ⟨hb.os, hb.tape, hb.output, hb.size, fun k hk _ => hb.block k (by omega), fun c hc => ⟨c, (hb.block y (Array.getElem?_eq_some_iff.1 hc).1).trans hc, rfl, fun _ _ => rfl⟩⟩
theorem RY.of_grown {z y fi : Nat} {w w' : World} {row : Option Nat} (hz : z ≤ w.heap.size) (hy : y < z) (hr : ∀ k, row = some k → z ≤ k) (h : w.grownBy w' row) : RY z y fi w w' := by
  have hk : ∀ k, k < z → w'.heap[k]? = w.heap[k]? := fun k hk => h.block k (by omega) (fun e => by have := hr k e.symm; omega)
  exact ⟨h.os, h.tape, h.output, h.size, fun k hk1 _ => hk k hk1, fun c hc => ⟨c, (hk y hy).trans hc, rfl, fun _ _ => rfl⟩⟩
theorem RY.set {z y fi : Nat} {w : World} {c : Array Value} {v : Value} (hc : w.heap[y]? = some (.cells c 30 (0, 0))) : RY z y fi w (w.setCell ⟨y, fi, none⟩ v) := by
  refine ⟨rfl, rfl, rfl, by simp [World.setCell], fun k _ hk => Below.heap_setCell _ _ _ k hk, fun c' hc' => ?_⟩
  rw [hc] at hc'
  cases hc'
  exact ⟨_, set_book' fi hc v, by simp, fun j hj => by rw [Array.getElem?_setIfInBounds, if_neg (Ne.symm hj)]⟩
def KeepBut (y : Nat) (w w' : World) : Prop := ∀ k, k < w.heap.size → k ≠ y → w'.heap[k]? = w.heap[k]?
theorem ownsRow_keep {w w' : World} {z y : Nat} {e : TypeId} {size : Nat} {v : Value} {n : Nat} {xs : List Value} (h : w.ownsRow z e size v n xs) (hy : y < z) (hk : KeepBut y w w') : w'.ownsRow z e size v n xs :=
  ownsRow_of h (fun g hg => hk g (h.lt g hg).2 (by have := (h.lt g hg).1; omega))
/-- The cells of a list of soundings. -/
def flatS (l : List Sound) : List Value := l.flatMap fun y => [i64 y.hour, i64 y.shore, i64 y.deep]
theorem flatS_len (l : List Sound) : (flatS l).length = l.length * 3 := by
  induction l with
  | nil => rfl
  | cons y l ih => simp [flatS] at ih ⊢; omega
theorem flatS_get (l : List Sound) (k : Nat) (h : k < l.length) : (flatS l)[k * 3]? = some (i64 l[k].hour) ∧ (flatS l)[k * 3 + 1]? = some (i64 l[k].shore) ∧ (flatS l)[k * 3 + 2]? = some (i64 l[k].deep) := by
  induction l generalizing k with
  | nil => cases h
  | cons y l ih =>
    cases k with
    | zero => exact ⟨rfl, rfl, rfl⟩
    | succ k =>
      have := ih k (by simpa using h)
      rw [show (k + 1) * 3 = k * 3 + 1 + 1 + 1 by omega]
      exact this
theorem flatS_cells {n : Nat} {w : World} {b o : Nat} {a : Option Addr} {l : List Sound} (h : SoundsAt n w b o a l) : ∀ j u, (flatS l)[j]? = some u → w.cell? ((⟨b, o, none⟩ : Addr).add j) = some u := by
  intro j u hu
  have hj : j < l.length * 3 := by rw [← flatS_len]; exact (List.getElem?_eq_some_iff.1 hu).1
  rw [show (⟨b, o, none⟩ : Addr).add j = ⟨b, o + j, none⟩ by unfold Addr.add; split <;> simp_all]
  have hk : j / 3 < l.length := by omega
  obtain ⟨g1, g2, g3⟩ := flatS_get l (j / 3) hk
  rcases (by omega : j = j / 3 * 3 ∨ j = j / 3 * 3 + 1 ∨ j = j / 3 * 3 + 2) with e | e | e
  · rw [e] at hu ⊢
    rw [g1] at hu
    cases hu
    exact h.hour _ hk
  · rw [e] at hu ⊢
    rw [g2] at hu
    cases hu
    exact h.shore _ hk
  · rw [e] at hu ⊢
    rw [g3] at hu
    cases hu
    exact h.deep _ hk
theorem sounds_row {z : Nat} {W : World} {v : Value} {l : List Sound} (h : W.ownsRow z 70 3 v l.length (flatS l)) (hl : l.length ≤ 1000) : ∃ b a c, v = .slice a l.length c ∧ SoundsAt W.heap.size W b 0 a l := by
  rcases h.2 with ⟨rfl, h0⟩ | ⟨g, cap, cur, rfl, h3, h4, h5, h6, h7, h8⟩
  · have : l = [] := List.length_eq_zero_iff.1 h0
    subst this
    exact ⟨0, none, 0, rfl, ⟨by simp, fun e => absurd rfl e, fun e => absurd rfl e, fun k hk => by simp at hk, fun k hk => by simp at hk, fun k hk => by simp at hk⟩⟩
  · have hc : ∀ j u, (flatS l)[j]? = some u → W.cell? ⟨g, 0 + j, none⟩ = some u := fun j u hu => by
      have := h.cells (g := g) rfl j u hu
      rw [addr_add] at this
      rwa [Nat.zero_add]
    refine ⟨g, _, cap, rfl, ⟨by omega, fun _ => rfl, fun _ => (h.lt g rfl).2, fun k hk => hc _ _ (flatS_get l k hk).1, fun k hk => ?_, fun k hk => ?_⟩⟩
    · exact hc (k * 3 + 1) _ (flatS_get l k hk).2.1
    · exact hc (k * 3 + 2) _ (flatS_get l k hk).2.2
theorem set_same {c c' : Array Value} {fi : Nat} {v : Value} (hs : c'.size = c.size) (hj : ∀ j, j ≠ fi → c'[j]? = c[j]?) : c'.setIfInBounds fi v = c.setIfInBounds fi v := by
  apply Array.ext_getElem?
  intro j
  rw [Array.getElem?_setIfInBounds, Array.getElem?_setIfInBounds, hs]
  by_cases h : fi = j
  · rw [if_pos h, if_pos h]
  · rw [if_neg h, if_neg h]; exact hj j (fun e => h e.symm)
theorem ownsRow_down {w : World} {z z' : Nat} {e : TypeId} {size : Nat} {v : Value} {n : Nat} {xs : List Value} (h : w.ownsRow z' e size v n xs) (hz : z ≤ z') : w.ownsRow z e size v n xs := by
  refine ⟨h.1, h.2.imp id ?_⟩
  rintro ⟨g, cap, cur, h1, h2, h3⟩
  exact ⟨g, cap, cur, h1, Nat.le_trans hz h2, h3⟩
theorem heap_new_at (W : World) (o : Obj) (k : Nat) (h : k = W.heap.size) : (W.alloc o).heap[k]? = some o := by subst h; exact heap_alloc_new W o
theorem info70 : (Tryd.prog.info? 70).map (fun i => (i.zero, i.size, i.bytes)) = some (some (.agg #[i64 0, i64 0, i64 0]), 3, 24) := by kernel_rfl
theorem info24' : (Tryd.prog.info? 24).map (fun i => (i.zero, i.size, i.bytes)) = some (some (.agg #[i64 0, i64 0]), 2, 16) := by kernel_rfl
end Go.Proofs.YtkbmpkdflgimmaaDoor
