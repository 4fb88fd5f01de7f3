/- Plain laws: how the soundings that must be wrong are chosen. -/
import Derived.Test.YtkbmpkdflgimmaaDoorPure1
namespace Go.Proofs.YtkbmpkdflgimmaaDoor

def okB (B : Book) (l : List Int) : Bool := !(ext0 B (dep B.sounds l)).isEmpty
def startOf (l : List Int) : Nat := match l.getLast? with
  | some x => (x + 1).toNat
  | none => 0
/-- The first of some numbers that yields something. -/
def scan {α : Type} (f : Nat → Option α) : Nat → Nat → Option α
  | 0, _ => none
  | m + 1, s => match f s with
    | some r => some r
    | none => scan f m (s + 1)
theorem scan_none {α : Type} {f : Nat → Option α} : ∀ {m s : Nat}, scan f m s = none ↔ ∀ i, s ≤ i → i < s + m → f i = none
  | 0, s => ⟨fun _ i h1 h2 => (by omega), fun _ => rfl⟩
  | m + 1, s => by
    unfold scan
    cases hf : f s with
    | some r =>
      refine ⟨fun h => (by simp at h), fun h => ?_⟩
      have := h s (Nat.le_refl _) (by omega)
      rw [hf] at this
      cases this
    | none =>
      simp only
      rw [scan_none]
      constructor
      · intro h i h1 h2
        rcases Nat.lt_or_ge s i with h3 | h3
        · exact h i h3 (by omega)
        · obtain rfl : i = s := by omega
          exact hf
      · intro h i h1 h2
        exact h i (by omega) (by omega)
theorem scan_some {α : Type} {f : Nat → Option α} {r : α} : ∀ {m s : Nat}, scan f m s = some r ↔ ∃ j, s ≤ j ∧ j < s + m ∧ f j = some r ∧ ∀ i, s ≤ i → i < j → f i = none
  | 0, s => ⟨fun h => (by cases h), fun ⟨j, h1, h2, _⟩ => (by omega)⟩
  | m + 1, s => by
    unfold scan
    cases hf : f s with
    | some q =>
      constructor
      · intro h
        exact ⟨s, Nat.le_refl _, by omega, by rw [hf]; exact h, fun i h1 h2 => by omega⟩
      · rintro ⟨j, h1, h2, h3, h4⟩
        rcases Nat.lt_or_ge s j with h5 | h5
        · have := h4 s (Nat.le_refl _) h5
          rw [hf] at this
          cases this
        · obtain rfl : j = s := by omega
          rw [hf] at h3
          exact h3
    | none =>
      simp only
      rw [scan_some]
      constructor
      · rintro ⟨j, h1, h2, h3, h4⟩
        refine ⟨j, by omega, by omega, h3, fun i h5 h6 => ?_⟩
        rcases Nat.lt_or_ge s i with h7 | h7
        · exact h4 i h7 h6
        · obtain rfl : i = s := by omega
          exact hf
      · rintro ⟨j, h1, h2, h3, h4⟩
        have : s < j := by
          rcases Nat.lt_or_ge s j with h5 | h5
          · exact h5
          · obtain rfl : j = s := by omega
            rw [hf] at h3
            cases h3
        exact ⟨j, this, by omega, h3, fun i h5 h6 => h4 i (by omega) h6⟩
def chooseB (B : Book) : Nat → List Int → Option (List Int)
  | 0, l => if okB B l then some l else none
  | d + 1, l => scan (fun i => chooseB B d (l ++ [(i : Int)])) (B.sounds.length - startOf l) (startOf l)
theorem chooseB_succ (B : Book) (d : Nat) (l : List Int) : chooseB B (d + 1) l = scan (fun i => chooseB B d (l ++ [(i : Int)])) (B.sounds.length - startOf l) (startOf l) := rfl
def wrongL (B : Book) : List Int := (scan (fun many => chooseB B many []) (B.sounds.length + 1) 0).getD []
def wrongR (B : Book) : List Int × Int := if B.valid then (wrongL B, 0) else ([], 20)
/-- What has been chosen so far: increasing numbers of soundings. -/
def Rising (n : Nat) (l : List Int) : Prop := l.Pairwise (· < ·) ∧ ∀ x ∈ l, 0 ≤ x ∧ x < n
theorem Rising.snoc {n : Nat} {l : List Int} (h : Rising n l) {i : Nat} (h1 : startOf l ≤ i) (h2 : i < n) : Rising n (l ++ [(i : Int)]) := by
  refine ⟨List.pairwise_append.2 ⟨h.1, List.pairwise_singleton _ _, fun x hx y hy => ?_⟩, fun x hx => ?_⟩
  · obtain rfl := List.mem_singleton.1 hy
    obtain ⟨l', z, rfl⟩ : ∃ l' z, l = l' ++ [z] := ⟨l.dropLast, l.getLast (List.ne_nil_of_mem hx), (List.dropLast_concat_getLast _).symm⟩
    have hz := h.2 z (by simp)
    have hs : startOf (l' ++ [z]) = (z + 1).toNat := by simp [startOf]
    rcases List.mem_append.1 hx with hx | hx
    · have := (List.pairwise_append.1 h.1).2.2 x hx z (by simp)
      omega
    · obtain rfl := List.mem_singleton.1 hx
      omega
  · rcases List.mem_append.1 hx with hx | hx
    · exact h.2 x hx
    · obtain rfl := List.mem_singleton.1 hx
      omega
theorem startOf_le {n : Nat} {l : List Int} (h : Rising n l) : startOf l ≤ n := by
  unfold startOf
  cases hl : l.getLast? with
  | none => simp
  | some x =>
    have := h.2 x (List.mem_of_getLast? hl)
    simp only
    omega
theorem rising_nil (n : Nat) : Rising n [] := ⟨List.Pairwise.nil, fun x hx => by cases hx⟩
end Go.Proofs.YtkbmpkdflgimmaaDoor
