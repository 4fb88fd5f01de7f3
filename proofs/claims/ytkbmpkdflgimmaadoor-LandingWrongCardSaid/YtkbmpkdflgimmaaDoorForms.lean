/- The exported functions' contracts, over a book's value in memory. -/
import Derived.Test.YtkbmpkdflgimmaaDoorHelp2
import Derived.Test.YtkbmpkdflgimmaaDoorHeight
import Derived.Test.YtkbmpkdflgimmaaDoorLandsR
import Derived.Test.YtkbmpkdflgimmaaDoorMost
import Derived.Test.YtkbmpkdflgimmaaDoorFirst
import Derived.Test.YtkbmpkdflgimmaaDoorBoth
namespace Go.Proofs.YtkbmpkdflgimmaaDoor
open Go.RowKit Go.Shelf

/-- The package's variables, all of them below the heap's end. -/
structure GA (W : World) : Prop where
  gl : GL W.heap.size W
  asks : Asks W.heap.size W
theorem GA.below {W W' : World} (h : GA W) (hb : Below W.heap.size W W') : GA W' := by
  have hs := hb.size
  refine ⟨(h.gl.same (Same.of_below hb)).up hs, ?_⟩
  have := h.asks.same (Same.of_below hb)
  exact ⟨Nat.le_trans this.n1 hs, this.a0, this.a1⟩
section
variable {W : World} {v : Value} {B : Book}
theorem check_v (hB : BookV W v B) : Calls Tryd.prog 43 #[v] W fun e w' => e = .returned (i64 (checkE B)) ∧ Below W.heap.size W w' := by
  obtain ⟨tb, tq, ta, tc, sb, sq, sa, sc, rfl, hT, hS⟩ := hB
  exact check_any B tb tq ta tc sb sq sa sc W hT hS
theorem right_v (hG : GA W) (hB : BookV W v B) : Calls Tryd.prog 25 #[v] W (RightPost B W) := by
  obtain ⟨tb, tq, ta, tc, sb, sq, sa, sc, rfl, hT, hS⟩ := hB
  exact Right_any W.heap.size B tb tq ta tc sb sq sa sc W (Nat.le_refl _) ⟨hG.gl, hT, hS⟩
theorem height_v (hG : GA W) (hB : BookV W v B) (hr : Int) : Calls Tryd.prog 27 #[v, i64 hr] W (HeightPost B hr W) := by
  obtain ⟨tb, tq, ta, tc, sb, sq, sa, sc, rfl, hT, hS⟩ := hB
  exact Height_any W.heap.size B tb tq ta tc sb sq sa sc hr W (Nat.le_refl _) ⟨hG.gl, hT, hS⟩
theorem floor_v (hG : GA W) (hB : BookV W v B) (s : Int) : Calls Tryd.prog 28 #[v, i64 s] W (FloorPost B s W) := by
  obtain ⟨tb, tq, ta, tc, sb, sq, sa, sc, rfl, hT, hS⟩ := hB
  exact Floor_any W.heap.size B tb tq ta tc sb sq sa sc s W (Nat.le_refl _) ⟨hG.gl, hT, hS⟩
theorem lands_v (hG : GA W) (hB : BookV W v B) (s hr ld : Int) : Calls Tryd.prog 29 #[v, i64 s, i64 hr, i64 ld] W (LandsRPost B s hr ld W) := by
  obtain ⟨tb, tq, ta, tc, sb, sq, sa, sc, rfl, hT, hS⟩ := hB
  exact LandsR_any W.heap.size B tb tq ta tc sb sq sa sc s hr ld W (Nat.le_refl _) ⟨hG.gl, hT, hS⟩ hG.asks
theorem most_v (hG : GA W) (hB : BookV W v B) (s hr : Int) : Calls Tryd.prog 33 #[v, i64 s, i64 hr] W (MostPost B s hr W) := by
  obtain ⟨tb, tq, ta, tc, sb, sq, sa, sc, rfl, hT, hS⟩ := hB
  exact Most_any W.heap.size B tb tq ta tc sb sq sa sc s hr W (Nat.le_refl _) ⟨hG.gl, hT, hS⟩
theorem first_v (hG : GA W) (hB : BookV W v B) (s ld : Int) : Calls Tryd.prog 34 #[v, i64 s, i64 ld] W (FirstPost B s ld W) := by
  obtain ⟨tb, tq, ta, tc, sb, sq, sa, sc, rfl, hT, hS⟩ := hB
  exact First_any W.heap.size B tb tq ta tc sb sq sa sc s ld W (Nat.le_refl _) ⟨hG.gl, hT, hS⟩
def BothVPost (B : Book) (ld : Int) (w : World) (e : Ending) (w' : World) : Prop := ∃ v, e = .returned (.tuple #[v, i64 (bothR B ld).2]) ∧ Below w.heap.size w w' ∧ ListV w' v (bothR B ld).1
theorem both_v (hG : GA W) (hB : BookV W v B) (ld : Int) : Calls Tryd.prog 35 #[v, i64 ld] W (BothVPost B ld W) := by
  obtain ⟨tb, tq, ta, tc, sb, sq, sa, sc, rfl, hT, hS⟩ := hB
  refine (Both_any W.heap.size B tb tq ta tc sb sq sa sc ld W (Nat.le_refl _) ⟨hG.gl, hT, hS⟩).mono ?_
  rintro e w' ⟨b, a, c, h1, h2, h3, h4⟩
  exact ⟨_, h1, h2, b, 0, a, c, rfl, h4, h3⟩
theorem wrong_v (hG : GA W) (hB : BookV W v B) : Calls Tryd.prog 26 #[v] W (WrongPost B W) := by
  obtain ⟨tb, tq, ta, tc, sb, sq, sa, sc, rfl, hT, hS⟩ := hB
  exact Wrong_any W.heap.size B tb tq ta tc sb sq sa sc W (Nat.le_refl _) ⟨hG.gl, hT, hS⟩
end
section
variable {P : Program} {l : List Oper} {Q : Exit → Act → World → Prop} {rd : Nat → List Nat} {pure : Nat → Bool} {G : Nat → List Value → World → Prop} {R : World → World → Prop} {i : Nat} {o : Oper} {a : Act} {w : World}
theorem rgw_wp (hw : Region.wanted o (yielded l.toArray a.tmps) = true) (hp : pure i = false) (h : o.wp P a w (fun a' w' => ∃ v, a' = a.put o.dst v ∧ R w w' ∧ G i (valsOf rd i a') w') Q) : RgStep P l Q rd pure G R i o a w := by
  unfold RgStep
  rw [if_pos hw]
  refine Oper.wp_mono ?_ h
  rintro a' w' ⟨v, h1, h2, h3⟩
  exact ⟨v, h1, h2, (fun h => by rw [hp] at h; cases h), h3⟩
end
theorem alike_v {W : World} {v v' : Value} {l k : List Int} (h1 : ListV W v l) (h2 : ListV W v' k) : Calls Tryd.prog 50 #[v, v'] W (AlikePost l k W) := by
  obtain ⟨b, o, a, c, rfl, _, h1⟩ := h1
  obtain ⟨b', o', a', c', rfl, _, h2⟩ := h2
  exact alike_any W.heap.size b o b' o' a a' c c' l k W (Nat.le_refl _) h1 h2
theorem ListV.one {W : World} {g : Nat} {x : Int} (h : W.heap[g]? = some (.cells #[i64 x] 3 (0, 0))) : ListV W (.slice (some ⟨g, 0, none⟩) 1 1) [x] := by
  have hc := cells_of h
  refine ⟨g, 0, _, 1, rfl, Nat.le_refl _, ⟨by simp, fun _ => rfl, fun _ => (Array.getElem?_eq_some_iff.1 h).1, fun k hk => ?_⟩⟩
  rw [hc]
  match k, hk with
  | 0, _ => rfl
theorem ListV.three {W : World} {g : Nat} {x y z : Int} (h : W.heap[g]? = some (.cells #[i64 x, i64 y, i64 z] 3 (0, 0))) : ListV W (.slice (some ⟨g, 0, none⟩) 3 3) [x, y, z] := by
  have hc := cells_of h
  refine ⟨g, 0, _, 3, rfl, Nat.le_refl _, ⟨by simp, fun _ => rfl, fun _ => (Array.getElem?_eq_some_iff.1 h).1, fun k hk => ?_⟩⟩
  rw [hc]
  match k, hk with
  | 0, _ => rfl
  | 1, _ => rfl
  | 2, _ => rfl
end Go.Proofs.YtkbmpkdflgimmaaDoor
