/- Loads and stores of a whole book, and of a whole book in the calculation, as one step. -/
import Derived.Test.YtkbmpkdflgimmaaDoorOpened
import Derived.Test.YtkbmpkdflgimmaaDoorCheck
namespace Go.Proofs.YtkbmpkdflgimmaaDoor
open Go.RowKit Go.Shelf

theorem size93 : (Tryd.prog.info? 93).map (·.size) = some 16 := by kernel_rfl
theorem size30 : (Tryd.prog.info? 30).map (·.size) = some 14 := by kernel_rfl
section
variable {ops : Array Oper} {rest : List Oper} {o : Oper} {a : Act} {w : World} {Q : Exit → Act → World → Prop}
theorem ld93 (hgd : o.guard = none) (x : Operand) (ho : o.op = .load 93 x) (g : Nat) (cs : Array Value) (hx : a.eval x = .pointer (some ⟨g, 0, none⟩)) (hg : w.heap[g]? = some (.cells cs 93 (0, 0))) (hs : cs.size = 16)
    (h : wpList Tryd.prog ops Q rest (a.put o.dst (.agg cs)) w) : wpList Tryd.prog ops Q (o :: rest) a w :=
  wpList_load_row hgd 93 x ho g hx 93 cs (0, 0) _ hg Tryd.underlying93 rfl (by rw [size93, hs]) h
theorem ld30 (hgd : o.guard = none) (x : Operand) (ho : o.op = .load 30 x) (g : Nat) (cs : Array Value) (hx : a.eval x = .pointer (some ⟨g, 0, none⟩)) (hg : w.heap[g]? = some (.cells cs 30 (0, 0))) (hs : cs.size = 14)
    (h : wpList Tryd.prog ops Q rest (a.put o.dst (.agg cs)) w) : wpList Tryd.prog ops Q (o :: rest) a w :=
  wpList_load_row hgd 30 x ho g hx 30 cs (0, 0) _ hg Tryd.underlying30 rfl (by rw [size30, hs]) h
theorem st93 (hgd : o.guard = none) (x y : Operand) (ho : o.op = .store 93 x y) (g : Nat) (cs old : Array Value) (hx : a.eval x = .pointer (some ⟨g, 0, none⟩)) (hy : a.eval y = .agg cs) (hg : w.heap[g]? = some (.cells old 93 (0, 0))) (hs : cs.size = 16) (ho' : old.size = 16) (h1 : cs.all (·.oneCell') = true)
    (h : wpList Tryd.prog ops Q rest (a.put o.dst undef) (w.setRow g cs)) : wpList Tryd.prog ops Q (o :: rest) a w :=
  wpList_store_row hgd 93 x y ho g cs hx hy 93 old hg (by rw [size93, hs]) (by rw [hs, ho']) h1 h
theorem st30 (hgd : o.guard = none) (x y : Operand) (ho : o.op = .store 30 x y) (g : Nat) (cs old : Array Value) (hx : a.eval x = .pointer (some ⟨g, 0, none⟩)) (hy : a.eval y = .agg cs) (hg : w.heap[g]? = some (.cells old 30 (0, 0))) (hs : cs.size = 14) (ho' : old.size = 14) (h1 : cs.all (·.oneCell') = true)
    (h : wpList Tryd.prog ops Q rest (a.put o.dst undef) (w.setRow g cs)) : wpList Tryd.prog ops Q (o :: rest) a w :=
  wpList_store_row hgd 30 x y ho g cs hx hy 30 old hg (by rw [size30, hs]) (by rw [hs, ho']) h1 h
end
theorem results_cell_tmp {P : Program} {fn : Func} {p q : Tmp} {ty : TypeId} (h : fn.results = #[.cell p ty, .tmp q]) (tmps : Array Value) (w : World) (g : Nat) (t : TypeId) (cs : Array Value) (fr : Nat × Nat) (d : TypeDesc)
    (hp : tmps.getD p undef = .pointer (some ⟨g, 0, none⟩)) (hg : w.heap[g]? = some (.cells cs t fr))
    (hu : P.underlying ty = some d) (hd : (match d with | .struct _ | .array _ _ => true | _ => false) = true) (hi : (P.info? ty).map (·.size) = some cs.size) :
    (results fn tmps).run P w = .ok (.tuple #[.agg cs, tmps.getD q undef]) w := by
  have hp' : tmps[p]?.getD undef = .pointer (some ⟨g, 0, none⟩) := by simpa using hp
  simp [results, h, hp', asAddr, run_loadVar_row w g t ty cs fr d hg hu hd hi]
/-- One block has been set; the rest is as it was. -/
structure SetAt (b : Nat) (W W' : World) : Prop where
  os : W'.os = W.os
  tape : W'.tape = W.tape
  output : W'.output = W.output
  size : W'.heap.size = W.heap.size
  other : ∀ k, k ≠ b → W'.heap[k]? = W.heap[k]?
theorem SetAt.row (W : World) (b : Nat) (cs : Array Value) : SetAt b W (W.setRow b cs) := ⟨rfl, rfl, rfl, by simp, fun k hk => setRow_other W b k cs hk⟩
theorem SetAt.below {b n : Nat} {w W W' : World} (h : SetAt b W W') (hn : n ≤ b) (hb : Below n w W) : Below n w W' :=
  ⟨h.os.trans hb.os, h.tape.trans hb.tape, h.output.trans hb.output, by rw [h.size]; exact hb.size, fun i hi => (h.other i (by omega)).trans (hb.block i hi)⟩
end Go.Proofs.YtkbmpkdflgimmaaDoor
