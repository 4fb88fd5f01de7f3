/- LandingLands' inner half answers true of every book and of all numbers. (Printed by genllands.py.) -/
import Derived.Test.YtkbmpkdflgimmaaDoorRef12
namespace Go.Proofs.YtkbmpkdflgimmaaDoor
open Go.RowKit Go.Shelf

set_option maxRecDepth 100000 in
set_option maxHeartbeats 4000000 in
theorem lLands_any (B : Book) (ta : Option Addr) (tc : Nat) (sa : Option Addr) (sc : Nat) (ta' : Option Addr) (tc' : Nat) (sa' : Option Addr) (sc' : Nat) (n0 n1 n2 : Int) (w : World) (hG : GA w) (hBo : BookV w (bookVal B ta tc sa sc) B) (hBb : BookV w (bookVal B ta' tc' sa' sc') B) :
    Calls Tryd.prog 19 #[bookVal B ta tc sa sc, bookVal B ta' tc' sa' sc', .agg #[i64 n0, i64 n1, i64 n2]] w (MoorPost w) := by
  have ha0 : Below w.heap.size w (((w.alloc (.cells (bookCells B ta tc sa sc) 30)).alloc (.cells (bookCells B ta' tc' sa' sc') 30)).alloc (.cells #[i64 n0, i64 n1, i64 n2] 37)) := (((Below.refl _ w).alloc (Nat.le_refl _) _).alloc (by simp <;> omega) _).alloc (by simp <;> omega) _
  have hx0 : (((w.alloc (.cells (bookCells B ta tc sa sc) 30)).alloc (.cells (bookCells B ta' tc' sa' sc') 30)).alloc (.cells #[i64 n0, i64 n1, i64 n2] 37)).heap[w.heap.size]? = some (.cells (bookCells B ta tc sa sc) 30 (0, 0)) := (Below.heap_alloc _ _ _ (by simp <;> omega)).trans ((Below.heap_alloc _ _ _ (by simp <;> omega)).trans (heap_alloc_new w _))
  have hy0 : (((w.alloc (.cells (bookCells B ta tc sa sc) 30)).alloc (.cells (bookCells B ta' tc' sa' sc') 30)).alloc (.cells #[i64 n0, i64 n1, i64 n2] 37)).heap[w.heap.size + 1]? = some (.cells (bookCells B ta' tc' sa' sc') 30 (0, 0)) := (Below.heap_alloc _ _ _ (by simp <;> omega)).trans (heap_new_at _ _ _ (by simp))
  have hn0 : (((w.alloc (.cells (bookCells B ta tc sa sc) 30)).alloc (.cells (bookCells B ta' tc' sa' sc') 30)).alloc (.cells #[i64 n0, i64 n1, i64 n2] 37)).heap[w.heap.size + 2]? = some (.cells #[i64 n0, i64 n1, i64 n2] 37 (0, 0)) := heap_new_at _ _ _ (by simp)
  have hG0 := hG.below ha0
  obtain ⟨p1, e1, hl⟩ : ∃ a b, Hid (landsR B n0 n1 n2 = (a, b)) := ⟨_, _, Lib.hid rfl⟩
  obtain ⟨p2, e2, hm⟩ : ∃ a b, Hid (mostR B n0 n1 = (a, b)) := ⟨_, _, Lib.hid rfl⟩
  go_enter Tryd.func19, Tryd.ntmps19
  have hnc0 := cells_of hn0
  have hnl0 := (Array.getElem?_eq_some_iff.1 hn0).1
  go_wp2_with ((refine ld30 rfl _ rfl _ _ rfl hx0 rfl ?_))
  refine (lands_v hG0 (hBo.below ha0) n0 n1 n2).mono ?_
  rintro e w1 ⟨rfl, hb1⟩
  rw [hl.out]
  have hx1 := (hb1.block _ (Array.getElem?_eq_some_iff.1 hx0).1).trans hx0
  have hy1 := (hb1.block _ (Array.getElem?_eq_some_iff.1 hy0).1).trans hy0
  have hn1 := (hb1.block _ (Array.getElem?_eq_some_iff.1 hn0).1).trans hn0
  have hG1 := hG0.below hb1
  have ha1 := ha0.trans (hb1.mono ha0.size)
  clear hx0 hy0 hn0 hG0 ha0
  clear hb1
  clear hnc0 hnl0
  have hnc1 := cells_of hn1
  have hnl1 := (Array.getElem?_eq_some_iff.1 hn1).1
  go_wp2_with ((refine ld30 rfl _ rfl _ _ rfl hy1 rfl ?_))
  refine (landsRefq_v (hBb.below ha1) n0 n1 n2).mono ?_
  rintro e w2 ⟨rfl, hb2⟩
  rw [hl.out]
  have hx2 := (hb2.block _ (Array.getElem?_eq_some_iff.1 hx1).1).trans hx1
  have hy2 := (hb2.block _ (Array.getElem?_eq_some_iff.1 hy1).1).trans hy1
  have hn2 := (hb2.block _ (Array.getElem?_eq_some_iff.1 hn1).1).trans hn1
  have hG2 := hG1.below hb2
  have ha2 := ha1.trans (hb2.mono ha1.size)
  clear hx1 hy1 hn1 hG1 ha1
  clear hb2
  clear hnc1 hnl1
  have hnc2 := cells_of hn2
  have hnl2 := (Array.getElem?_eq_some_iff.1 hn2).1
  go_wp2_with ((refine ld30 rfl _ rfl _ _ rfl hx2 rfl ?_))
  refine (most_v hG2 (hBo.below ha2) n0 n1).mono ?_
  rintro e w3 ⟨rfl, hb3⟩
  rw [hm.out]
  have hx3 := (hb3.block _ (Array.getElem?_eq_some_iff.1 hx2).1).trans hx2
  have hy3 := (hb3.block _ (Array.getElem?_eq_some_iff.1 hy2).1).trans hy2
  have hn3 := (hb3.block _ (Array.getElem?_eq_some_iff.1 hn2).1).trans hn2
  have hG3 := hG2.below hb3
  have ha3 := ha2.trans (hb3.mono ha2.size)
  clear hx2 hy2 hn2 hG2 ha2
  clear hb3
  clear hnc2 hnl2
  have hnc3 := cells_of hn3
  have hnl3 := (Array.getElem?_eq_some_iff.1 hn3).1
  go_wp2_with ((refine ld30 rfl _ rfl _ _ rfl hy3 rfl ?_))
  refine (mostRef_v (hBb.below ha3) n0 n1).mono ?_
  rintro e w4 ⟨rfl, hb4⟩
  rw [hm.out]
  have hx4 := (hb4.block _ (Array.getElem?_eq_some_iff.1 hx3).1).trans hx3
  have hy4 := (hb4.block _ (Array.getElem?_eq_some_iff.1 hy3).1).trans hy3
  have hn4 := (hb4.block _ (Array.getElem?_eq_some_iff.1 hn3).1).trans hn3
  have hG4 := hG3.below hb4
  have ha4 := ha3.trans (hb4.mono ha3.size)
  clear hx3 hy3 hn3 hG3 ha3
  clear hb4
  clear hnc3 hnl3
  go_wp2_with fail
  go_ret
  exact ⟨rfl, ha4⟩
end Go.Proofs.YtkbmpkdflgimmaaDoor
