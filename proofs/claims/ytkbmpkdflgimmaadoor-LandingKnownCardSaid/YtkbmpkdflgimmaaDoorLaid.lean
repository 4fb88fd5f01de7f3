/- What the listed package-level variables give: their cells. -/
import Derived.Test.YtkbmpkdflgimmaaDoorS6
import Derived.Test.YtkbmpkdflgimmaaDoorOpen
import Derived.Test.YtkbmpkdflgimmaaDoorRows
import Derived.LaidMore
import Derived.Stop.Joined
namespace Go.Proofs.YtkbmpkdflgimmaaDoor
open Go.RowKit Go.WideShapes Go.ChangeShapes
set_option maxRecDepth 100000

abbrev laid3 : List (String × DataW Unit) := [("prow/landing.nowhere", Rows.laid_prow_landing_nowhere), ("prow/landing.unknown", Rows.laid_prow_landing_unknown), ("prow/landing.asks", Rows.laid_prow_landing_asks)]
theorem gNow : Tryd.prog.globalNamed "prow/landing.nowhere" = some 1 := by kernel_rfl
theorem gUnk : Tryd.prog.globalNamed "prow/landing.unknown" = some 2 := by kernel_rfl
theorem gAsk : Tryd.prog.globalNamed "prow/landing.asks" = some 0 := by kernel_rfl
theorem tNow : (Tryd.prog.globals[1]?).map (·.type) = some 107 := by kernel_rfl
theorem tUnk : (Tryd.prog.globals[2]?).map (·.type) = some 99 := by kernel_rfl
theorem tAsk : (Tryd.prog.globals[0]?).map (·.type) = some 105 := by kernel_rfl
section
variable {H : Type} {enc : TypeId × Value → H} {W : World} {base : Nat} {spare : Nat → Bool} {held : Bool} {fuel : Nat} {cs : List Value}
theorem rd_lit {n : Int} {p : List MemPlace} (h : DataW.trod enc Tryd.prog W base spare held fuel 3 cs = some (DataW.lit (.int .i64 n), p)) : cs = [i64 n] := by
  obtain ⟨m, h1, h2, _⟩ := DataW.trod_int Tryd.underlying3 h
  simp at h2
  rw [h1, h2.1]
theorem cells107 : Tryd.prog.cellsOf 107 = 2 := by kernel_rfl
theorem cells99 : Tryd.prog.cellsOf 99 = 2 := by kernel_rfl
theorem rd_place {a b : Int} {p : List MemPlace} (h : DataW.trod enc Tryd.prog W base spare held fuel 107 cs = some (.agg [.lit (.int .i64 a), .lit (.int .i64 b)], p)) : cs = [i64 a, i64 b] := by
  obtain ⟨xs, n, rfl, hx, hlen, hxl, hel⟩ := DataW.trod_struct Tryd.underlying107 h
  rw [cells107] at hlen
  obtain ⟨c0, c1, rfl⟩ := list2 hlen
  obtain ⟨⟨x0, y0⟩, ⟨x1, y1⟩, rfl⟩ := list2 (show xs.length = 2 from hxl)
  have h0 := hel 0 _ rfl
  have h1 := hel 1 _ rfl
  simp [cells3] at h0 h1 hx
  obtain ⟨⟨rfl, rfl⟩, _⟩ := hx
  have e0 := rd_lit h0
  have e1 := rd_lit h1
  simp at e0 e1
  rw [e0, e1]
theorem rd_bottoms {a b : Int} {p : List MemPlace} (h : DataW.trod enc Tryd.prog W base spare held fuel 99 cs = some (.agg [.lit (.int .i64 a), .lit (.int .i64 b)], p)) : cs = [i64 a, i64 b] := by
  obtain ⟨xs, n, rfl, hx, hlen, hxl, hel⟩ := DataW.trod_array Tryd.underlying99 h
  rw [cells99] at hlen
  obtain ⟨c0, c1, rfl⟩ := list2 hlen
  obtain ⟨⟨x0, y0⟩, ⟨x1, y1⟩, rfl⟩ := list2 hxl
  have h0 := hel 0 (by decide)
  have h1 := hel 1 (by decide)
  simp [cells3] at h0 h1 hx
  obtain ⟨⟨rfl, rfl⟩, _⟩ := hx
  have e0 := rd_lit h0
  have e1 := rd_lit h1
  simp at e0 e1
  rw [e0, e1]
end
theorem ga_of_laid {W : World} (h : laidMetH Tryd.prog laid3 W) : GA W := by
  have hplain : laidMet Tryd.prog [("prow/landing.nowhere", Rows.laid_prow_landing_nowhere), ("prow/landing.unknown", Rows.laid_prow_landing_unknown)] W := h.1
  obtain ⟨ps, ⟨g0, t0, cs0, f0, p0, q0, hg0, ht0, hv0, hd0, ⟨g1, t1, cs1, f1, p1, q1, hg1, ht1, hv1, hd1, _, _⟩, _⟩, _, _⟩ := hplain
  obtain rfl := Option.some.inj (gNow.symm.trans hg0)
  obtain rfl := Option.some.inj (gUnk.symm.trans hg1)
  obtain rfl := Option.some.inj (tNow.symm.trans ht0)
  obtain rfl := Option.some.inj (tUnk.symm.trans ht1)
  have e0 := rd_place (a := -1) (b := -1) hd0
  have e1 := rd_bottoms (a := -41) (b := -41) hd1
  have n0 : W.cell? ⟨1, 0, none⟩ = some (i64 (-1)) := by
    have := World.var?_cell hg0 hv0 0
    rw [← Array.getElem?_toList, e0] at this
    exact this
  have n1 : W.cell? ⟨1, 1, none⟩ = some (i64 (-1)) := by
    have := World.var?_cell hg0 hv0 1
    rw [← Array.getElem?_toList, e0] at this
    exact this
  have u0 : W.cell? ⟨2, 0, none⟩ = some (i64 (-41)) := by
    have := World.var?_cell hg1 hv1 0
    rw [← Array.getElem?_toList, e1] at this
    exact this
  have u1 : W.cell? ⟨2, 1, none⟩ = some (i64 (-41)) := by
    have := World.var?_cell hg1 hv1 1
    rw [← Array.getElem?_toList, e1] at this
    exact this
  have hlt := lt_of_cell u0
  have hlt : 2 < W.heap.size := hlt
  obtain ⟨g, t, cs, fuel, p, hg, ht, hv, hd⟩ := h.funcs (n := "prow/landing.asks") (d := _) (List.mem_cons_of_mem _ (List.mem_cons_of_mem _ (List.mem_singleton.2 rfl)))
  obtain rfl := Option.some.inj (gAsk.symm.trans hg)
  obtain rfl := Option.some.inj (tAsk.symm.trans ht)
  have hd2 : DataW.trod (funcToken Tryd.prog) Tryd.prog W 0 (fun _ => true) true fuel 105 cs.toList = some (.agg [.held [40, 112, 114, 111, 119, 47, 108, 97, 110, 100, 105, 110, 103, 46, 98, 111, 111, 107, 41, 46, 109, 97, 121], .held [40, 112, 114, 111, 119, 47, 108, 97, 110, 100, 105, 110, 103, 46, 98, 111, 111, 107, 41, 46, 109, 117, 115, 116]], p) := hd
  obtain ⟨xs, n, rfl, hx, hlen, hxl, hel⟩ := DataW.trod_array Tryd.underlying105 hd2
  have c105 : Tryd.prog.cellsOf 105 = 2 := by kernel_rfl
  have c104 : Tryd.prog.cellsOf 104 = 1 := by kernel_rfl
  rw [c105] at hlen
  obtain ⟨c0, c1, hcs⟩ := list2 hlen
  obtain ⟨⟨x0, y0⟩, ⟨x1, y1⟩, rfl⟩ := list2 hxl
  have h0 := hel 0 (by decide)
  have h1 := hel 1 (by decide)
  rw [hcs] at h0 h1
  simp [c104] at h0 h1 hx
  obtain ⟨⟨rfl, rfl⟩, _⟩ := hx
  have k0 := func_of_trod (f0 := 122) Tryd.underlying104 (by kernel_rfl) h0
  have k1 := func_of_trod (f0 := 79) Tryd.underlying104 (by kernel_rfl) h1
  refine ⟨⟨by omega, n0, n1, u0, u1⟩, ⟨by omega, ?_, ?_⟩⟩
  · have := World.var?_cell hg hv 0
    rw [← Array.getElem?_toList, hcs, k0] at this
    exact this
  · have := World.var?_cell hg hv 1
    rw [← Array.getElem?_toList, hcs, k1] at this
    exact this
end Go.Proofs.YtkbmpkdflgimmaaDoor
