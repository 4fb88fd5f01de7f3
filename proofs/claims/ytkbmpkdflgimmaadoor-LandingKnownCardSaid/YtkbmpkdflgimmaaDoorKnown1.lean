/- What the exported functions answer of the books that LandingKnown names, and of every book that is no book. -/
import Derived.Test.YtkbmpkdflgimmaaDoorS7
namespace Go.Proofs.YtkbmpkdflgimmaaDoor
open Go.RowKit Go.Shelf

abbrev ownK : Book := bookL []
abbrev tornK : Book := bookL [⟨0, 0, 10⟩, ⟨0, 1, 6⟩]
abbrev soundedK : Book := bookL [⟨0, 0, 10⟩]
theorem k1 : heightR tornK 4 = (0, 0, 21) := by decide +kernel
theorem k2 : floorR tornK 2 = (0, 0, 21) := by decide +kernel
theorem k3 : landsR tornK 0 0 201 = (0, 21) := by decide +kernel
theorem k4 : mostR tornK 2 0 = (0, 21) := by decide +kernel
theorem k5 : firstR tornK 0 (-1) = (0, 21) := by decide +kernel
theorem k6 : bothR tornK 201 = ([], 21) := by decide +kernel
theorem k7 : heightR tornK 0 = (0, 0, 22) := by decide +kernel
theorem k8 : floorR tornK 0 = (0, 0, 22) := by decide +kernel
theorem k9 : bothR tornK 0 = ([], 22) := by decide +kernel
theorem k10 : mostR ownK 1 0 = (0, 4) := by decide +kernel
theorem k11 : landsR ownK 1 0 0 = (1, 0) := by decide +kernel
theorem k12 : landsR ownK 0 2 0 = (1, 0) := by decide +kernel
theorem k13 : landsR ownK 1 0 40 = (0, 0) := by decide +kernel
theorem k14 : landsR ownK 0 0 0 = (2, 0) := by decide +kernel
theorem k15 : landsR ownK 0 0 1 = (1, 0) := by decide +kernel
theorem k16 : heightR ownK 0 = (10, 12, 0) := by decide +kernel
theorem k17 : floorR soundedK 0 = (2, 2, 0) := by decide +kernel
theorem k18 : mostR ownK 0 1 = (40, 0) := by decide +kernel
theorem k19 : firstR ownK 0 30 = (1, 0) := by decide +kernel
theorem k20 : firstR ownK 1 30 = (2, 0) := by decide +kernel
theorem k21 : bothR ownK 20 = ([1, 3], 0) := by decide +kernel
theorem k22 : bothR ownK 0 = ([1, 3], 0) := by decide +kernel
theorem k23 : rightR tornK = (false, 0) := by decide +kernel
theorem k24 : wrongR soundedK = ([], 0) := by decide +kernel
theorem k25 : firstR ownK 1 200 = (0, 4) := by decide +kernel
section
variable {B : Book}
theorem askK_bad (h : B.valid = false) (q : Bool) : askE B q = 20 := by unfold askE; rw [h]; rfl
theorem check_bad (h : B.valid = false) : checkE B = 20 := by unfold checkE; rw [h]; rfl
theorem right_bad (h : B.valid = false) : rightR B = (false, 20) := by unfold rightR; rw [h]; rfl
theorem height_bad (h : B.valid = false) (hr : Int) : heightR B hr = (0, 0, 20) := by unfold heightR; rw [askK_bad h]; rfl
theorem floor_bad (h : B.valid = false) (s : Int) : floorR B s = (0, 0, 20) := by unfold floorR; rw [askK_bad h]; rfl
theorem lands_bad (h : B.valid = false) (s hr ld : Int) : landsR B s hr ld = (0, 20) := by unfold landsR; rw [askK_bad h]; rfl
theorem most_bad (h : B.valid = false) (s hr : Int) : mostR B s hr = (0, 20) := by unfold mostR; rw [askK_bad h]; rfl
theorem first_bad (h : B.valid = false) (s ld : Int) : firstR B s ld = (0, 20) := by unfold firstR; rw [askK_bad h]; rfl
theorem both_bad (h : B.valid = false) (ld : Int) : bothR B ld = ([], 20) := by unfold bothR; rw [askK_bad h]; rfl
theorem wrong_bad (h : B.valid = false) : wrongR B = ([], 20) := by unfold wrongR; rw [h]; rfl
end
end Go.Proofs.YtkbmpkdflgimmaaDoor
