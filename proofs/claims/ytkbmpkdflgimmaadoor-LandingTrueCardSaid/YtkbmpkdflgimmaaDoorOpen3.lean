/- Arguments opened: a slice of whole numbers. -/
import Derived.Test.YtkbmpkdflgimmaaDoorOpen
namespace Go.Proofs.YtkbmpkdflgimmaaDoor
open Go.RowKit Go.WideShapes Go.ChangeShapes Go.Deep
set_option maxRecDepth 100000
theorem bytes3 : Tryd.prog.bytesOf 3 = 8 := by kernel_rfl
section
variable {H : Type} {enc : TypeId × Value → H} {W : World} {base : Nat} {spare : Nat → Bool} {held : Bool}
theorem rd_ints {v : Value} {d : DataW H} {p : List MemPlace} {b0 : Nat} (hv : Value.okWide Tryd.prog W .any b0 40 v) (h : DataW.Trod enc Tryd.prog W base spare held 40 v d p) (hsz : ∀ n ∈ d.weights Tryd.prog 40, n ≤ reachBytes) : ∃ l, ListV W v l := by
  obtain ⟨a0, len0, cap0, rfl⟩ := okWide_slice Tryd.underlying40 hv
  obtain ⟨fuel, hf⟩ := h
  rcases open_slice Tryd.underlying40 hf with ⟨h1, _⟩ | ⟨a, len, cap, m, n, D, Pl, h1, _, hl, _, hm, hdx, hx⟩
  · simp [Value.cells] at h1
    obtain ⟨rfl, rfl, rfl⟩ := h1
    exact ⟨[], 0, 0, none, 0, rfl, Nat.le_refl _, ⟨by simp, fun h => absurd rfl h, fun h => absurd rfl h, fun k h => by simp at h⟩⟩
  · simp [Value.cells] at h1
    obtain ⟨rfl, rfl, rfl⟩ := h1
    obtain ⟨rfl, rfl⟩ : d = _ ∧ p = _ := by simpa using hdx
    have hlm : len0 ≤ m := by rw [hm]; split <;> omega
    obtain ⟨f, hf2⟩ := choose_lt (α := Int) (n := len0) (p := fun i s => W.cell? (a.add i) = some (i64 s)) (fun i hi => by
      obtain ⟨cs', h2, h3⟩ := hx i (by omega)
      rw [cells3] at h2
      obtain ⟨_, _, h4⟩ := World.cells?_some h2
      obtain ⟨q, rfl⟩ := rd_int h3
      have e0 := h4 0 (by decide)
      rw [add0, Nat.mul_one] at e0
      simp only [List.getElem?_cons_zero] at e0
      exact ⟨q, e0⟩)
    have hlen : len0 * 8 ≤ 140737488351232 := by
      have := hsz (((List.range len0).map D).length * 8 + ((List.range (m - len0)).map fun j => D (len0 + j)).length * 8) (by
        simp only [DataW.weights, Tryd.underlying40, bytes3, Nat.add_mul]
        simp)
      simp [reachBytes] at this
      omega
    have hlk : ((List.range len0).map f).length = len0 := by simp
    obtain ⟨b, o, spot⟩ := a
    have hspot : len0 ≠ 0 → spot = none := fun h0 => by
      have := World.cell?_spot (hf2 0 (by omega))
      simpa [Addr.add] using this
    refine ⟨(List.range len0).map f, b, o, some ⟨b, o, spot⟩, cap0, by rw [hlk], by rw [hlk]; exact hl, ⟨by rw [hlk]; exact hlen, fun hne => ?_, fun hne => ?_, fun k hk => ?_⟩⟩
    · rw [hspot (fun e => hne (by rw [e]; rfl))]
    · have h0 : 0 < len0 := Nat.pos_of_ne_zero (fun e => hne (by rw [e]; rfl))
      have := lt_of_cell (hf2 0 h0)
      simpa [Addr.add] using this
    · rw [hlk] at hk
      have h5 := hf2 k hk
      rw [hspot (by omega)] at h5
      rw [show (⟨b, o, none⟩ : Addr).add k = ⟨b, o + k, none⟩ by unfold Addr.add; split <;> simp_all] at h5
      simpa using h5
end
end Go.Proofs.YtkbmpkdflgimmaaDoor
