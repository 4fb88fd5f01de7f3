/- LandingFirsts' inner half answers true of every book and of all numbers. (Printed by genlfirsts.py.) -/
import Derived.Test.YtkbmpkdflgimmaaDoorRef15
namespace Go.Proofs.YtkbmpkdflgimmaaDoor
open Go.RowKit Go.Shelf

set_option maxRecDepth 100000 in
set_option maxHeartbeats 4000000 in
theorem lFirsts_any (B : Book) (ta : Option Addr) (tc : Nat) (sa : Option Addr) (sc : Nat) (ta' : Option Addr) (tc' : Nat) (sa' : Option Addr) (sc' : Nat) (n0 n1 : Int) (w : World) (hG : GA w) (hBo : BookV w (bookVal B ta tc sa sc) B) (hBb : BookV w (bookVal B ta' tc' sa' sc') B) :
    Calls Tryd.prog 20 #[bookVal B ta tc sa sc, bookVal B ta' tc' sa' sc', .agg #[i64 n0, i64 n1]] w (MoorPost w) := by
  have ha0 : Below w.heap.size w (((w.alloc (.cells (bookCells B ta tc sa sc) 30)).alloc (.cells (bookCells B ta' tc' sa' sc') 30)).alloc (.cells #[i64 n0, i64 n1] 31)) := (((Below.refl _ w).alloc (Nat.le_refl _) _).alloc (by simp <;> omega) _).alloc (by simp <;> omega) _
  have hx0 : (((w.alloc (.cells (bookCells B ta tc sa sc) 30)).alloc (.cells (bookCells B ta' tc' sa' sc') 30)).alloc (.cells #[i64 n0, i64 n1] 31)).heap[w.heap.size]? = some (.cells (bookCells B ta tc sa sc) 30 (0, 0)) := (Below.heap_alloc _ _ _ (by simp <;> omega)).trans ((Below.heap_alloc _ _ _ (by simp <;> omega)).trans (heap_alloc_new w _))
  have hy0 : (((w.alloc (.cells (bookCells B ta tc sa sc) 30)).alloc (.cells (bookCells B ta' tc' sa' sc') 30)).alloc (.cells #[i64 n0, i64 n1] 31)).heap[w.heap.size + 1]? = some (.cells (bookCells B ta' tc' sa' sc') 30 (0, 0)) := (Below.heap_alloc _ _ _ (by simp <;> omega)).trans (heap_new_at _ _ _ (by simp))
  have hn0 : (((w.alloc (.cells (bookCells B ta tc sa sc) 30)).alloc (.cells (bookCells B ta' tc' sa' sc') 30)).alloc (.cells #[i64 n0, i64 n1] 31)).heap[w.heap.size + 2]? = some (.cells #[i64 n0, i64 n1] 31 (0, 0)) := heap_new_at _ _ _ (by simp)
  have hG0 := hG.below ha0
  obtain ⟨p1, e1, hf⟩ : ∃ a b, Hid (firstR B n0 n1 = (a, b)) := ⟨_, _, Lib.hid rfl⟩
  obtain ⟨p2, e2, hh⟩ : ∃ a b, Hid (bothR B n1 = (a, b)) := ⟨_, _, Lib.hid rfl⟩
  obtain ⟨p3, e3, hw⟩ : ∃ a b, Hid (wrongR B = (a, b)) := ⟨_, _, Lib.hid rfl⟩
  go_enter Tryd.func20, Tryd.ntmps20
  have hnc0 := cells_of hn0
  have hnl0 := (Array.getElem?_eq_some_iff.1 hn0).1
  go_wp2_with ((refine ld30 rfl _ rfl _ _ rfl hx0 rfl ?_))
  refine (first_v hG0 (hBo.below ha0) n0 n1).mono ?_
  rintro e w1 ⟨rfl, hb1⟩
  rw [hf.out]
  have hx1 := (hb1.block _ (Array.getElem?_eq_some_iff.1 hx0).1).trans hx0
  have hy1 := (hb1.block _ (Array.getElem?_eq_some_iff.1 hy0).1).trans hy0
  have hn1 := (hb1.block _ (Array.getElem?_eq_some_iff.1 hn0).1).trans hn0
  have hG1 := hG0.below hb1
  have ha1 := ha0.trans (hb1.mono ha0.size)
  clear hx0 hy0 hn0 hG0 ha0
  clear hb1
  clear hnc0 hnl0
  have hnc1 := cells_of hn1
  have hnl1 := (Array.getElem?_eq_some_iff.1 hn1).1
  go_wp2_with ((refine ld30 rfl _ rfl _ _ rfl hy1 rfl ?_))
  refine (firstRef_v (hBb.below ha1) n0 n1).mono ?_
  rintro e w2 ⟨rfl, hb2⟩
  rw [hf.out]
  have hx2 := (hb2.block _ (Array.getElem?_eq_some_iff.1 hx1).1).trans hx1
  have hy2 := (hb2.block _ (Array.getElem?_eq_some_iff.1 hy1).1).trans hy1
  have hn2 := (hb2.block _ (Array.getElem?_eq_some_iff.1 hn1).1).trans hn1
  have hG2 := hG1.below hb2
  have ha2 := ha1.trans (hb2.mono ha1.size)
  clear hx1 hy1 hn1 hG1 ha1
  clear hb2
  clear hnc1 hnl1
  have hnc2 := cells_of hn2
  have hnl2 := (Array.getElem?_eq_some_iff.1 hn2).1
  go_wp2_with (refine ld30 rfl _ rfl _ _ rfl hx2 rfl ?_)
  refine (both_v hG2 (hBo.below ha2) n1).mono ?_
  rintro e w3 ⟨v3, rfl, hb3, hL3⟩
  rw [hh.out] at hL3 ⊢
  have hx3 := (hb3.block _ (Array.getElem?_eq_some_iff.1 hx2).1).trans hx2
  have hy3 := (hb3.block _ (Array.getElem?_eq_some_iff.1 hy2).1).trans hy2
  have hn3 := (hb3.block _ (Array.getElem?_eq_some_iff.1 hn2).1).trans hn2
  have hG3 := hG2.below hb3
  have ha3 := ha2.trans (hb3.mono ha2.size)
  clear hx2 hy2 hn2 hG2 ha2
  clear hnc2 hnl2
  have hnc3 := cells_of hn3
  have hnl3 := (Array.getElem?_eq_some_iff.1 hn3).1
  go_wp2_with (refine ld30 rfl _ rfl _ _ rfl hy3 rfl ?_)
  refine (bothRef_v (hBb.below ha3) n1).mono ?_
  rintro e w4 ⟨v4, rfl, hb4, hM4⟩
  rw [hh.out] at hM4 ⊢
  have hL4 := hL3.below hb4
  have hx4 := (hb4.block _ (Array.getElem?_eq_some_iff.1 hx3).1).trans hx3
  have hy4 := (hb4.block _ (Array.getElem?_eq_some_iff.1 hy3).1).trans hy3
  have hn4 := (hb4.block _ (Array.getElem?_eq_some_iff.1 hn3).1).trans hn3
  have hG4 := hG3.below hb4
  have ha4 := ha3.trans (hb4.mono ha3.size)
  clear hx3 hy3 hn3 hG3 ha3
  clear hnc3 hnl3
  go_wp2_with fail
  refine (alike_v hL4 hM4).mono ?_
  rintro e w5 ⟨rfl, hb5⟩
  rw [beq_self_eq_true]
  have hx5 := (hb5.block _ (Array.getElem?_eq_some_iff.1 hx4).1).trans hx4
  have hy5 := (hb5.block _ (Array.getElem?_eq_some_iff.1 hy4).1).trans hy4
  have hn5 := (hb5.block _ (Array.getElem?_eq_some_iff.1 hn4).1).trans hn4
  have hG5 := hG4.below hb5
  have ha5 := ha4.trans (hb5.mono ha4.size)
  clear hx4 hy4 hn4 hG4 ha4
  clear hL4 hM4 hL3 hb3 hb4 hb5
  have hnc5 := cells_of hn5
  have hnl5 := (Array.getElem?_eq_some_iff.1 hn5).1
  go_wp2_with (refine ld30 rfl _ rfl _ _ rfl hx5 rfl ?_)
  refine (wrong_v hG5 (hBo.below ha5)).mono ?_
  rintro e w6 ⟨v6, rfl, hb6, hL6⟩
  rw [hw.out] at hL6 ⊢
  have hx6 := (hb6.block _ (Array.getElem?_eq_some_iff.1 hx5).1).trans hx5
  have hy6 := (hb6.block _ (Array.getElem?_eq_some_iff.1 hy5).1).trans hy5
  have hn6 := (hb6.block _ (Array.getElem?_eq_some_iff.1 hn5).1).trans hn5
  have hG6 := hG5.below hb6
  have ha6 := ha5.trans (hb6.mono ha5.size)
  clear hx5 hy5 hn5 hG5 ha5
  clear hnc5 hnl5
  have hnc6 := cells_of hn6
  have hnl6 := (Array.getElem?_eq_some_iff.1 hn6).1
  go_wp2_with (refine ld30 rfl _ rfl _ _ rfl hy6 rfl ?_)
  refine (wrongRef_v (hBb.below ha6)).mono ?_
  rintro e w7 ⟨v7, rfl, hb7, hM7⟩
  rw [hw.out] at hM7 ⊢
  have hL7 := hL6.below hb7
  have hx7 := (hb7.block _ (Array.getElem?_eq_some_iff.1 hx6).1).trans hx6
  have hy7 := (hb7.block _ (Array.getElem?_eq_some_iff.1 hy6).1).trans hy6
  have hn7 := (hb7.block _ (Array.getElem?_eq_some_iff.1 hn6).1).trans hn6
  have hG7 := hG6.below hb7
  have ha7 := ha6.trans (hb7.mono ha6.size)
  clear hx6 hy6 hn6 hG6 ha6
  clear hnc6 hnl6
  go_wp2_with fail
  refine (alike_v hL7 hM7).mono ?_
  rintro e w8 ⟨rfl, hb8⟩
  rw [beq_self_eq_true]
  have hx8 := (hb8.block _ (Array.getElem?_eq_some_iff.1 hx7).1).trans hx7
  have hy8 := (hb8.block _ (Array.getElem?_eq_some_iff.1 hy7).1).trans hy7
  have hn8 := (hb8.block _ (Array.getElem?_eq_some_iff.1 hn7).1).trans hn7
  have hG8 := hG7.below hb8
  have ha8 := ha7.trans (hb8.mono ha7.size)
  clear hx7 hy7 hn7 hG7 ha7
  go_wp2_with fail
  go_ret
  exact ⟨rfl, ha8⟩
end Go.Proofs.YtkbmpkdflgimmaaDoor
