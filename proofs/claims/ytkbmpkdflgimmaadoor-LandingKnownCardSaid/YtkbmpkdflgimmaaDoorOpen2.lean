/- Arguments opened: a sounding by value. -/
import Derived.Test.YtkbmpkdflgimmaaDoorOpen
namespace Go.Proofs.YtkbmpkdflgimmaaDoor
open Go.RowKit Go.WideShapes Go.ChangeShapes
set_option maxRecDepth 100000
section
variable {H : Type} {enc : TypeId × Value → H} {W : World} {base : Nat} {spare : Nat → Bool} {held : Bool}
theorem rd_soundv {v : Value} {d : DataW H} {p : List MemPlace} {b0 : Nat} (hv : Value.okWide Tryd.prog W .any b0 70 v) (h : DataW.Trod enc Tryd.prog W base spare held 70 v d p) : ∃ a b c : Int, v = .agg #[i64 a, i64 b, i64 c] := by
  obtain ⟨cs, rfl, hcs⟩ := okWide_struct Tryd.underlying70 hv
  obtain ⟨fuel, hf⟩ := h
  obtain ⟨a, b, c, e⟩ := rd_sound hf
  obtain ⟨l⟩ := cs
  simp only [Value.cells] at e
  exact ⟨a, b, c, by rw [e]⟩
end
end Go.Proofs.YtkbmpkdflgimmaaDoor
