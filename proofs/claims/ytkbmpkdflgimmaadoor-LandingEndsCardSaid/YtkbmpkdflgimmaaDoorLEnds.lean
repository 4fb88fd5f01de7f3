/- LandingEnds answers true of every book and of all numbers. -/
import Derived.Test.YtkbmpkdflgimmaaDoorLEnds0
import Derived.Test.YtkbmpkdflgimmaaDoorLEnds1
namespace Go.Proofs.YtkbmpkdflgimmaaDoor
open Go.RowKit Go.Shelf

theorem LEnds_v {B : Book} {v : Value} {w : World} (hG : GA w) (hB : BookV w v B) (n0 n1 n2 n3 : Int) : Calls Tryd.prog 7 #[v, .agg #[i64 n0, i64 n1, i64 n2, i64 n3]] w (MoorPost w) := by
  obtain ⟨tb, tq, ta, tc, sb, sq, sa, sc, rfl, hT, hS⟩ := hB
  have hs := modI_lt (n := n1) (m := 2) (by decide)
  rcases (by omega : modI n1 2 = 0 ∨ modI n1 2 = 1) with h | h
  · exact LEnds0_any B tb tq ta tc sb sq sa sc n0 n1 n2 n3 w hG hT hS h
  · exact LEnds1_any B tb tq ta tc sb sq sa sc n0 n1 n2 n3 w hG hT hS h
end Go.Proofs.YtkbmpkdflgimmaaDoor
