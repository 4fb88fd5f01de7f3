/- What the exported functions answer of the chapter's books. -/
import Derived.Test.YtkbmpkdflgimmaaDoorHelp2
namespace Go.Proofs.YtkbmpkdflgimmaaDoor
theorem moor1 : heightR (bookL [⟨0, 0, 10⟩]) 0 = (12, 12, 0) := by decide +kernel
theorem moor2 : landsR (bookL []) 0 1 20 = (2, 0) := by decide +kernel
theorem moor3 : mostR (bookL []) 1 1 = (20, 0) := by decide +kernel
theorem moor4 : firstR (bookL []) 0 50 = (3, 0) := by decide +kernel
theorem moor5 : bothR (bookL [⟨0, 0, 10⟩]) 0 = ([0, 1, 3], 0) := by decide +kernel
theorem moor6 : wrongR (bookL [⟨0, 0, 10⟩, ⟨0, 1, 6⟩]) = ([0], 0) := by decide +kernel
theorem moor7 : rightR (bookL []) = (true, 0) := by decide +kernel
theorem moor8 : floorR (bookL []) 0 = (2, 3, 0) := by decide +kernel
end Go.Proofs.YtkbmpkdflgimmaaDoor
