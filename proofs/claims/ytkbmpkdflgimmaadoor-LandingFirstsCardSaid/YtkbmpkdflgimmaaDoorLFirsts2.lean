/- LFirsts answers true of every book and of all numbers. (Printed by genouter.py.) -/
import Derived.Test.YtkbmpkdflgimmaaDoorLFirsts
namespace Go.Proofs.YtkbmpkdflgimmaaDoor
open Go.RowKit Go.Shelf

theorem box30o (w : World) (cs : Array Value) : Below w.heap.size w ((w.alloc (.cells zero30 30)).setRow w.heap.size cs) ∧ ((w.alloc (.cells zero30 30)).setRow w.heap.size cs).heap[w.heap.size]? = some (.cells cs 30 (0, 0)) :=
  ⟨(SetAt.row _ _ cs).below (Nat.le_refl _) ((Below.refl _ w).alloc (Nat.le_refl _) _), setRow_heap _ _ _ _ _ _ (heap_alloc_new w _)⟩
set_option maxRecDepth 100000 in
set_option maxHeartbeats 4000000 in
theorem LFirsts_v {B : Book} {v : Value} {w : World} (hG : GA w) (hB : BookV w v B) (n0 n1 : Int) : Calls Tryd.prog 5 #[v, .agg #[i64 n0, i64 n1]] w (MoorPost w) := by
  obtain ⟨tb, tq, ta, tc, sb, sq, sa, sc, rfl, hT, hS⟩ := hB
  have hB : BookV w (bookVal B ta tc sa sc) B := ⟨tb, tq, ta, tc, sb, sq, sa, sc, rfl, hT, hS⟩
  have ha0 : Below w.heap.size w ((w.alloc (.cells (bookCells B ta tc sa sc) 30)).alloc (.cells #[i64 n0, i64 n1] 31)) := ((Below.refl _ w).alloc (Nat.le_refl _) _).alloc (by simp) _
  have hx0 : ((w.alloc (.cells (bookCells B ta tc sa sc) 30)).alloc (.cells #[i64 n0, i64 n1] 31)).heap[w.heap.size]? = some (.cells (bookCells B ta tc sa sc) 30 (0, 0)) := (Below.heap_alloc _ _ _ (by simp)).trans (heap_alloc_new w _)
  have hn0 : ((w.alloc (.cells (bookCells B ta tc sa sc) 30)).alloc (.cells #[i64 n0, i64 n1] 31)).heap[w.heap.size + 1]? = some (.cells #[i64 n0, i64 n1] 31 (0, 0)) := heap_alloc2_new w _ _
  have hB0 := hB.below ha0
  have hG0 := hG.below ha0
  clear hB hG hT hS
  go_enter Tryd.func5, Tryd.ntmps5
  go_wp2_with (refine ld30 rfl _ rfl _ _ rfl hx0 rfl ?_)
  refine (ownLanding_v hB0).mono ?_
  rintro e w1 ⟨v1, rfl, hb1, hO1⟩
  have hx1 := (hb1.block _ (Array.getElem?_eq_some_iff.1 hx0).1).trans hx0
  have hn1 := (hb1.block _ (Array.getElem?_eq_some_iff.1 hn0).1).trans hn0
  have hB1 := hB0.below hb1
  have hG1 := hG0.below hb1
  have ha1 := ha0.trans (hb1.mono ha0.size)
  clear hx0 hn0 hB0 hG0 ha0
  clear hb1
  obtain ⟨xb, xq, xa, xc, yb, yq, ya, yc, rfl, hXT, hXS⟩ := hO1
  have hO1 : BookV w1 (bookVal B xa xc ya yc) B := ⟨xb, xq, xa, xc, yb, yq, ya, yc, rfl, hXT, hXS⟩
  have hz1 := heap_alloc_new w1 (.cells zero30 30)
  clear hXT hXS
  obtain ⟨hb2, ho2⟩ := box30o w1 (bookCells B xa xc ya yc)
  have hx2 := (hb2.block _ (Array.getElem?_eq_some_iff.1 hx1).1).trans hx1
  have hn2 := (hb2.block _ (Array.getElem?_eq_some_iff.1 hn1).1).trans hn1
  have hB2 := hB1.below hb2
  have hO2 := hO1.below hb2
  have hG2 := hG1.below hb2
  have ha2 := ha1.trans (hb2.mono ha1.size)
  clear hx1 hn1 hB1 hO1 hG1 ha1
  clear hb2
  have hnc2 := cells_of hn2
  have hnl2 := (Array.getElem?_eq_some_iff.1 hn2).1
  go_wp2_with (first | (refine st30 rfl _ _ rfl _ (bookCells B xa xc ya yc) zero30 rfl rfl hz1 rfl rfl (by simp [Value.oneCell']) ?_) | (refine ld30 rfl _ rfl _ _ rfl ho2 rfl ?_) | (refine ld30 rfl _ rfl _ _ rfl hx2 rfl ?_))
  refine (lFirsts_any B xa xc ya yc ta tc sa sc n0 n1 _ hG2 hO2 hB2).mono ?_
  rintro e w3 ⟨rfl, hb3⟩
  have hx3 := (hb3.block _ (Array.getElem?_eq_some_iff.1 hx2).1).trans hx2
  have hn3 := (hb3.block _ (Array.getElem?_eq_some_iff.1 hn2).1).trans hn2
  have ho3 := (hb3.block _ (Array.getElem?_eq_some_iff.1 ho2).1).trans ho2
  have hB3 := hB2.below hb3
  have hO3 := hO2.below hb3
  have hG3 := hG2.below hb3
  have ha3 := ha2.trans (hb3.mono ha2.size)
  clear hx2 hn2 ho2 hB2 hO2 hG2 ha2
  clear hnc2 hnl2 hb3
  go_wp2_with (first | (refine ld30h (by rfl) _ rfl _ _ rfl ho3 rfl ?_) | (refine ld30h (by rfl) _ rfl _ _ rfl hx3 rfl ?_))
  refine (keptLanding_v hO3 hB3).mono ?_
  rintro e w4 ⟨rfl, hb4⟩
  have hx4 := (hb4.block _ (Array.getElem?_eq_some_iff.1 hx3).1).trans hx3
  have hn4 := (hb4.block _ (Array.getElem?_eq_some_iff.1 hn3).1).trans hn3
  have ho4 := (hb4.block _ (Array.getElem?_eq_some_iff.1 ho3).1).trans ho3
  have hB4 := hB3.below hb4
  have hO4 := hO3.below hb4
  have hG4 := hG3.below hb4
  have ha4 := ha3.trans (hb4.mono ha3.size)
  clear hx3 hn3 ho3 hB3 hO3 hG3 ha3
  go_wp2_with (go_at_call 18; refine (moored_any _ hG4).mono ?_; rintro e w5 ⟨rfl, hb5⟩)
  go_ret
  exact ⟨rfl, ha4.trans (hb5.mono ha4.size)⟩
end Go.Proofs.YtkbmpkdflgimmaaDoor
