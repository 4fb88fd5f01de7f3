/- Regions that draw their order, walked once, in the order of the text: under a class of worlds. -/
import Derived.Test.YtkbmpkdflgimmaaDoorBase
import Derived.Deep.Quiet
namespace Go.Proofs.YtkbmpkdflgimmaaDoor
open Go.RowKit
section
variable {P : Program} {C : World → Prop} {Q : Exit → Act → World → Prop} {K : Act → Prop} {a : Act} {ops : Array Oper} {o : Oper} {rest : List Oper}
theorem q_region {id : Nat} {l : List Oper} {w : World} (C : World → Prop) (hm : P.follows .mixedOrders = true) (hB : Region.lexB .any l.toArray = true) (hC : ∀ n, C { w with drawn := n })
    (h : wpQuiet P l.toArray C (fun a' => ∀ w', C w' → Q .normal a' w') l a) : (Code.region id l.toArray true).wp P Q a w :=
  wp_region_quiet hm hB (hC _) (by simpa using h)
/-- An operation that yields one value in every world of the class. -/
theorem q_val (hw : Region.wanted o (yielded ops a.tmps) = true) (h : ∃ v, (∀ w, C w → (execOp a.eval o).run P w = .ok (.value v) w) ∧ wpQuiet P ops C K rest (a.put o.dst v)) : wpQuiet P ops C K (o :: rest) a := by
  obtain ⟨v, h1, h2⟩ := h
  simp only [wpQuiet, hw, if_true]
  exact ⟨v, fun w hC => by simp [Oper.quietAt, h1 w hC, Oper.quietUpon], h2⟩
/-- A call that hands back one value in every world of the class, and leaves one of it. -/
theorem q_call (hw : Region.wanted o (yielded ops a.tmps) = true) (v : Value) (f : FuncId) (args : Array Value) (h : ∀ w, C w → (execOp a.eval o).run P w = .ok (.enter f args) w)
    (hc : ∀ w, C w → Calls P f args w fun e w' => e = .returned v ∧ C w') (hn : wpQuiet P ops C K rest (a.put o.dst v)) : wpQuiet P ops C K (o :: rest) a := by
  simp only [wpQuiet, hw, if_true]
  exact ⟨v, fun w hC => by simp only [Oper.quietAt, h w hC, Oper.quietUpon]; exact ⟨trivial, hc w hC⟩, hn⟩
theorem q_skip (hw : Region.wanted o (yielded ops a.tmps) = false) (hn : wpQuiet P ops C K rest (a.put o.dst undef)) : wpQuiet P ops C K (o :: rest) a := by
  simp only [wpQuiet, hw]
  exact hn
end
end Go.Proofs.YtkbmpkdflgimmaaDoor
