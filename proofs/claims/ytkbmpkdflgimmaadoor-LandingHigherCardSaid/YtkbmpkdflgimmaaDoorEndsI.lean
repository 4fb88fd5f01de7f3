/- For LandingEnds: what the rounds of its loop keep. (Printed by genends.py.) -/
import Derived.Test.YtkbmpkdflgimmaaDoorPure8
namespace Go.Proofs.YtkbmpkdflgimmaaDoor
open Go.RowKit Go.Shelf

theorem box24v (w : World) (a b : Int) : Below w.heap.size w (w.alloc (.cells #[i64 a, i64 b] 24)) ∧ (w.alloc (.cells #[i64 a, i64 b] 24)).heap[w.heap.size]? = some (.cells #[i64 a, i64 b] 24 (0, 0)) :=
  ⟨(Below.refl _ w).alloc (Nat.le_refl _) _, heap_alloc_new w _⟩
theorem wanted_undef {l : List Oper} {o : Oper} {a : Act} {j d : Nat} {want : Bool} (hg : o.guard = some (j, want)) (hd : (l[j]?).bind (·.dst) = some d) (hs : slotOf a d = undef) : Region.wanted o (yielded l.toArray a.tmps) = false := by
  unfold slotOf at hs
  rw [Array.getD_eq_getD_getElem?] at hs
  simp only [Region.wanted, hg, yielded, List.getElem?_toArray, hd, Option.bind_some]
  cases h : a.tmps[d]? with
  | none => rfl
  | some v =>
    rw [h] at hs
    have hs : v = undef := hs
    rw [hs]
    rfl
/-- What the loop's rounds keep. -/
structure EndI (w W7 : World) (p q gl gm k : Nat) (s : Int) (j : Nat) (a : Act) (W : World) : Prop where
  size : a.tmps.size = 196
  defers : a.defers = []
  s2 : slotOf a 2 = .pointer (some ⟨w.heap.size, 0, none⟩)
  s4 : slotOf a 4 = .bool false
  s5 : slotOf a 5 = i64 k
  s6 : slotOf a 6 = i64 s
  s7 : slotOf a 7 = .pointer (some ⟨p, 0, none⟩)
  s9 : slotOf a 9 = .pointer (some ⟨q, 0, none⟩)
  s11 : slotOf a 11 = .slice (some ⟨gl, 0, none⟩) 3 3
  s12 : slotOf a 12 = .slice (some ⟨gm, 0, none⟩) 3 3
  s13 : slotOf a 13 = i64 j
  hb : Below W7.heap.size W7 W
end Go.Proofs.YtkbmpkdflgimmaaDoor
