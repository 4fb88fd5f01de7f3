/- The region 'b, e := asked(..)': what its steps leave. -/
import Derived.Test.YtkbmpkdflgimmaaDoorRight2
import Derived.Test.YtkbmpkdflgimmaaDoorRG
namespace Go.Proofs.YtkbmpkdflgimmaaDoor
open Go.RowKit Go.Shelf

/-- From w to w': below z nothing changes; elsewhere only blocks of type 93 may be written. -/
structure RA (z : Nat) (w w' : World) : Prop where
  os : w'.os = w.os
  tape : w'.tape = w.tape
  output : w'.output = w.output
  size : w.heap.size ≤ w'.heap.size
  old : ∀ k, k < z → w'.heap[k]? = w.heap[k]?
  keep : ∀ (k : Nat) o, w.heap[k]? = some o → (∀ c, o ≠ .cells c 93 (0, 0)) → w'.heap[k]? = some o
  box : ∀ (k : Nat) c, w.heap[k]? = some (.cells c 93 (0, 0)) → ∃ c', w'.heap[k]? = some (.cells c' 93 (0, 0)) ∧ c'.size = c.size
theorem RA.refl (z : Nat) (w : World) : RA z w w := ⟨rfl, rfl, rfl, Nat.le_refl _, fun _ _ => rfl, fun _ _ h _ => h, fun _ c h => ⟨c, h, rfl⟩⟩
theorem RA.drawn (z : Nat) (w : World) (n : Nat) : RA z w { w with drawn := n } := ⟨rfl, rfl, rfl, Nat.le_refl _, fun _ _ => rfl, fun _ _ h _ => h, fun _ c h => ⟨c, h, rfl⟩⟩
theorem RA.trans {z : Nat} {A B C : World} (h : RA z A B) (k : RA z B C) : RA z A C :=
  ⟨k.os.trans h.os, k.tape.trans h.tape, k.output.trans h.output, Nat.le_trans h.size k.size, fun i hi => (k.old i hi).trans (h.old i hi), fun i o ho hn => k.keep i o (h.keep i o ho hn) hn, fun i c hc => by
    obtain ⟨c1, h1, h2⟩ := h.box i c hc
    obtain ⟨c2, h3, h4⟩ := k.box i c1 h1
    exact ⟨c2, h3, h4.trans h2⟩⟩
theorem RA.of_below {z : Nat} {w w' : World} (hz : z ≤ w.heap.size) (hb : Below w.heap.size w w') : RA z w w' :=
  ⟨hb.os, hb.tape, hb.output, hb.size, fun k hk => hb.block k (by omega), fun k _ hk _ => (hb.block k (Array.getElem?_eq_some_iff.1 hk).1).trans hk, fun k c hk => ⟨c, (hb.block k (Array.getElem?_eq_some_iff.1 hk).1).trans hk, rfl⟩⟩
theorem RA.store {z b : Nat} {w : World} {c cs : Array Value} (hz : z ≤ b) (hc : w.heap[b]? = some (.cells c 93 (0, 0))) (hs : cs.size = c.size) : RA z w (w.setRow b cs) := by
  refine ⟨rfl, rfl, rfl, by simp, fun k hk => setRow_other _ _ _ _ (by omega), fun k o ho hn => ?_, fun k c' hk => ?_⟩
  · by_cases hkb : k = b
    · subst hkb; rw [hc] at ho; cases ho; exact absurd rfl (hn c)
    · rw [setRow_other _ _ _ _ hkb]; exact ho
  · by_cases hkb : k = b
    · subst hkb
      rw [hc] at hk
      cases hk
      exact ⟨cs, setRow_heap _ _ _ _ _ _ hc, hs⟩
    · exact ⟨c', by rw [setRow_other _ _ _ _ hkb]; exact hk, rfl⟩
theorem RA.below {z : Nat} {w w' : World} (h : RA z w w') : Below z w w' := ⟨h.os, h.tape, h.output, h.size, h.old⟩
theorem AskFacts.ra {z z' : Nat} {B : Book} {ta : Option Addr} {tc : Nat} {sa : Option Addr} {sc : Nat} {W W' : World} {cs : Array Value} (h : AskFacts z B ta tc sa sc W cs) (hr : RA z' W W') : AskFacts z B ta tc sa sc W' cs :=
  h.keep fun k o _ hk hx => hr.keep k o hk (fun c => by rcases hx with ⟨_, _, rfl⟩ | ⟨_, rfl⟩ | ⟨_, rfl⟩ <;> simp)
section
variable {P : Program} {l : List Oper} {Q : Exit → Act → World → Prop} {rd : Nat → List Nat} {pure : Nat → Bool} {G : Nat → List Value → World → Prop} {R : World → World → Prop} {i : Nat} {o : Oper} {a : Act} {w : World}
theorem rg_val (hg : o.guard = none) (v : Value) (h : (execOp a.eval o).run P w = .ok (.value v) w) (hR : R w w) (hG : G i (valsOf rd i (a.put o.dst v)) w) : RgStep P l Q rd pure G R i o a w := by
  unfold RgStep
  rw [if_pos (by simp [Region.wanted, hg])]
  unfold Oper.wp
  rw [h]
  exact ⟨v, rfl, hR, fun _ => rfl, hG⟩
theorem rg_call (hg : o.guard = none) (f : FuncId) (args : Array Value) (h : (execOp a.eval o).run P w = .ok (.enter f args) w) (hp : pure i = false)
    (hc : Calls P f args w fun e w' => ∃ v, e = .returned v ∧ R w w' ∧ G i (valsOf rd i (a.put o.dst v)) w') : RgStep P l Q rd pure G R i o a w := by
  unfold RgStep
  rw [if_pos (by simp [Region.wanted, hg])]
  unfold Oper.wp
  rw [h]
  refine Calls.mono hc ?_
  rintro e w' ⟨v, rfl, hR, hG⟩
  exact ⟨v, rfl, hR, (fun h => by rw [hp] at h; cases h), hG⟩
theorem rg_wp (hg : o.guard = none) (hp : pure i = false) (h : o.wp P a w (fun a' w' => ∃ v, a' = a.put o.dst v ∧ R w w' ∧ G i (valsOf rd i a') w') Q) : RgStep P l Q rd pure G R i o a w := by
  unfold RgStep
  rw [if_pos (by simp [Region.wanted, hg])]
  refine Oper.wp_mono ?_ h
  rintro a' w' ⟨v, h1, h2, h3⟩
  exact ⟨v, h1, h2, (fun h => by rw [hp] at h; cases h), h3⟩
end
theorem slotOf_same (a : Act) (d : Nat) (v : Value) (h : d < a.tmps.size) : slotOf (a.put (some d) v) d = v := by
  simp [slotOf, Act.put, Array.getD_eq_getD_getElem?, h]
theorem act_eta (a : Act) (n : Nat) (hs : a.tmps.size = n) (hd : a.defers = []) : a = { tmps := ((List.range n).map (slotOf a)).toArray, defers := [] } := by
  obtain ⟨t, d⟩ := a
  simp only at hd hs
  subst hd
  congr
  apply Array.ext
  · simp [hs]
  · intro k h1 h2
    simp [slotOf, Array.getD_eq_getD_getElem?, h1]
section
variable {P : Program} {o : Oper} {a : Act} {w : World}
theorem ex_load_row (ty : TypeId) (x : Operand) (ho : o.op = .load ty x) (g : Nat) (hx : a.eval x = .pointer (some ⟨g, 0, none⟩)) (t : TypeId) (cs : Array Value) (fr : Nat × Nat) (d : TypeDesc) (hg : w.heap[g]? = some (.cells cs t fr))
    (hu : P.underlying ty = some d) (hd : (match d with | .struct _ | .array _ _ => true | _ => false) = true) (hi : (P.info? ty).map (·.size) = some cs.size) : (execOp a.eval o).run P w = .ok (.value (.agg cs)) w := by
  unfold execOp
  simp only [ho, hx, Instr.loadAt, Instr.sureAddr, Sem.run_bind, Sem.run_pure, Result.andThen_ok, run_loadVar_row w g t ty cs fr d hg hu hd hi]
theorem ex_move (x : Operand) (ho : o.op = .move x) (v : Value) (hx : a.eval x = v) : (execOp a.eval o).run P w = .ok (.value v) w := by
  unfold execOp
  simp [ho, hx]
theorem ex_assign (x : Operand) (ho : o.op = .assign x) (v : Value) (hx : a.eval x = v) : (execOp a.eval o).run P w = .ok (.value v) w := by
  unfold execOp
  simp [ho, hx]
theorem ex_extract (x : Operand) (n : Nat) (ho : o.op = .extract x n) (vs : Array Value) (v : Value) (hx : a.eval x = .tuple vs) (hv : vs[n]? = some v) : (execOp a.eval o).run P w = .ok (.value v) w := by
  unfold execOp
  simp [ho, hx, Instr.extract, hv]
end
end Go.Proofs.YtkbmpkdflgimmaaDoor
