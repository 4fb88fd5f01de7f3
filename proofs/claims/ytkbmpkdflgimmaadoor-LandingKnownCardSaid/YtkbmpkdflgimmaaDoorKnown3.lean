/- LandingKnown's first region: fifteen books that are no books. (Printed by genknown3.py.) -/
import Derived.Test.YtkbmpkdflgimmaaDoorKnown2
namespace Go.Proofs.YtkbmpkdflgimmaaDoor
open Go.RowKit Go.Shelf

abbrev zeros21 : Array Value := #[i64 0, i64 0, i64 0, i64 0, i64 0, i64 0, i64 0, i64 0, i64 0, i64 0, i64 0, i64 0, i64 0, i64 0, i64 0, i64 0, i64 0, i64 0, i64 0, i64 0, i64 0]
abbrev ownC (t : Nat) : Array Value := bookCells (bookL []) (some ⟨t, 0, none⟩) 4 none 0
abbrev bkC (l : List Sound) (t s n : Nat) : Array Value := bookCells (bookL l) (some ⟨t, 0, none⟩) 4 (some ⟨s, 0, none⟩) n
def T0 (z : Nat) (W : World) (t : Nat) : Prop := z ≤ t ∧ W.heap[t]? = some (.cells (tide8 10 12) 24 (0, 0))
def TT (W : World) (t : Nat) : Prop := ∃ lo hi, W.heap[t]? = some (.cells (tide8 lo hi) 24 (0, 0))
def TB (W : World) (t : Nat) : Prop := ∃ lo hi, spanOk ⟨lo, hi⟩ = false ∧ W.heap[t]? = some (.cells (tide8 lo hi) 24 (0, 0))
theorem T0.keep {z : Nat} {W W' : World} {t : Nat} (h : T0 z W t) (hb : ∀ k, k < W.heap.size → W'.heap[k]? = W.heap[k]?) : T0 z W' t := ⟨h.1, (hb _ (Array.getElem?_eq_some_iff.1 h.2).1).trans h.2⟩
theorem sounds7 {W : World} {b : Nat} (h : W.heap[b]? = some (.cells zeros21 70 (0, 0))) : SoundsAt W.heap.size W b 0 (some ⟨b, 0, none⟩) [⟨0, 0, 0⟩, ⟨0, 0, 0⟩, ⟨0, 0, 0⟩, ⟨0, 0, 0⟩, ⟨0, 0, 0⟩, ⟨0, 0, 0⟩, ⟨0, 0, 0⟩] := by
  have hc := cells_of h
  refine ⟨by simp, fun _ => rfl, fun _ => (Array.getElem?_eq_some_iff.1 h).1, fun k hk => ?_, fun k hk => ?_, fun k hk => ?_⟩ <;> (rw [hc]; match k, hk with | 0, _ => rfl | 1, _ => rfl | 2, _ => rfl | 3, _ => rfl | 4, _ => rfl | 5, _ => rfl | 6, _ => rfl)
def rows0 (t1 t2 t3 t4 t5 t6 t7 t8 t9 t10 t11 t12 t13 t14 s11 s12 s13 s14 : Nat) : List (Array Value) := [zero30, ownC t1, ownC t2, ownC t3, ownC t4, ownC t5, ownC t6, ownC t7, ownC t8, ownC t9, ownC t10, bkC [⟨4, 0, 0⟩] t11 s11 1, bkC [⟨0, 2, 0⟩] t12 s12 1, bkC [⟨0, 0, 121⟩] t13 s13 1, bkC [⟨0, 0, 0⟩, ⟨0, 0, 0⟩, ⟨0, 0, 0⟩, ⟨0, 0, 0⟩, ⟨0, 0, 0⟩, ⟨0, 0, 0⟩, ⟨0, 0, 0⟩] t14 s14 7]
theorem rows0_size (t1 t2 t3 t4 t5 t6 t7 t8 t9 t10 t11 t12 t13 t14 s11 s12 s13 s14 : Nat) : ∀ r ∈ rows0 t1 t2 t3 t4 t5 t6 t7 t8 t9 t10 t11 t12 t13 t14 s11 s12 s13 s14, r.size = 14 := by
  unfold rows0
  simp only [List.forall_mem_cons]
  exact ⟨rfl, rfl, rfl, rfl, rfl, rfl, rfl, rfl, rfl, rfl, rfl, rfl, rfl, rfl, rfl, fun _ h => by cases h⟩
/-- The fifteen books in memory: their block's rows, the blocks of their tides (some of them with a bad span ahead), of their soundings. -/
structure KS (z : Nat) (W : World) (g : Nat) (rows : List (Array Value)) (bads ts : List Nat) (s11 s12 s13 s14 : Nat) : Prop where
  zg : z ≤ g
  zt : ∀ t ∈ ts, z ≤ t
  hg : W.heap[g]? = some (.cells (rowsC rows) 30 (0, 0))
  hr : ∀ r ∈ rows, r.size = 14
  tt : ∀ t ∈ ts, TT W t
  tb : ∀ t ∈ bads, TB W t
  h11 : W.heap[s11]? = some (.cells #[i64 4, i64 0, i64 0] 70 (0, 0))
  h12 : W.heap[s12]? = some (.cells #[i64 0, i64 2, i64 0] 70 (0, 0))
  h13 : W.heap[s13]? = some (.cells #[i64 0, i64 0, i64 121] 70 (0, 0))
  h14 : W.heap[s14]? = some (.cells zeros21 70 (0, 0))
section
variable {z : Nat} {W W' : World} {g : Nat} {rows : List (Array Value)} {bads ts : List Nat} {s11 s12 s13 s14 : Nat}
theorem KS.keep (h : KS z W g rows bads ts s11 s12 s13 s14) (hb : ∀ k, k < W.heap.size → W'.heap[k]? = W.heap[k]?) : KS z W' g rows bads ts s11 s12 s13 s14 := by
  have q : ∀ {k : Nat} {o : Obj}, W.heap[k]? = some o → W'.heap[k]? = some o := fun h => (hb _ (Array.getElem?_eq_some_iff.1 h).1).trans h
  exact ⟨h.zg, h.zt, q h.hg, h.hr, fun t ht => by obtain ⟨lo, hi, h1⟩ := h.tt t ht; exact ⟨lo, hi, q h1⟩, fun t ht => by obtain ⟨lo, hi, h0, h1⟩ := h.tb t ht; exact ⟨lo, hi, h0, q h1⟩, q h.h11, q h.h12, q h.h13, q h.h14⟩
theorem KS.new (hr : ∀ r ∈ rows, r.size = 14) (hz : z ≤ W.heap.size) (ht : ∀ t ∈ ts, T0 z W t) (h11 : W.heap[s11]? = some (.cells #[i64 4, i64 0, i64 0] 70 (0, 0))) (h12 : W.heap[s12]? = some (.cells #[i64 0, i64 2, i64 0] 70 (0, 0))) (h13 : W.heap[s13]? = some (.cells #[i64 0, i64 0, i64 121] 70 (0, 0))) (h14 : W.heap[s14]? = some (.cells zeros21 70 (0, 0))) :
    KS z (W.alloc (.cells (rowsC rows) 30)) W.heap.size rows [] ts s11 s12 s13 s14 := by
  have q : ∀ {k : Nat} {o : Obj}, W.heap[k]? = some o → (W.alloc (.cells (rowsC rows) 30)).heap[k]? = some o := fun h => (Below.heap_alloc _ _ _ (Array.getElem?_eq_some_iff.1 h).1).trans h
  exact ⟨hz, fun t h => (ht t h).1, heap_alloc_new W _, hr, fun t h => ⟨10, 12, q (ht t h).2⟩, fun t h => (by cases h), q h11, q h12, q h13, q h14⟩
abbrev zeros50 : Array Value := #[i64 0, i64 0, i64 0, i64 0, i64 0, i64 0, i64 0, i64 0, i64 0, i64 0, i64 0, i64 0, i64 0, i64 0, i64 0, i64 0, i64 0, i64 0, i64 0, i64 0, i64 0, i64 0, i64 0, i64 0, i64 0, i64 0, i64 0, i64 0, i64 0, i64 0, i64 0, i64 0, i64 0, i64 0, i64 0, i64 0, i64 0, i64 0, i64 0, i64 0, i64 0, i64 0, i64 0, i64 0, i64 0, i64 0, i64 0, i64 0, i64 0, i64 0]
theorem infoK70 : (Tryd.prog.info? 70).map (fun i => (i.zero, i.size, i.bytes)) = some (some (.agg #[i64 0, i64 0, i64 0]), 3, 24) := by kernel_rfl
theorem infoK24 : (Tryd.prog.info? 24).map (fun i => (i.zero, i.size, i.bytes)) = some (some (.agg #[i64 0, i64 0]), 2, 16) := by kernel_rfl
theorem make7 (w : World) : (Instr.makeSlice 28 (i64 7) (i64 7)).run Tryd.prog w = .ok (.slice (some ⟨w.heap.size, 0, none⟩) 7 7) (w.alloc (.cells zeros21 70)) := by
  obtain ⟨i, hi, hz, hs, hb⟩ := info_parts infoK70
  have := run_makeSlice (P := Tryd.prog) w 28 70 i _ Tryd.underlying28 hi hz .i64 .i64 7 7 (by decide) (by decide) (by rw [hs]; decide) (by rw [hb]; decide) (by decide)
  rw [hs, show madeCells (Value.agg #[i64 0, i64 0, i64 0]).cells (Int.toNat 7 * 3) = zeros21 by kernel_rfl] at this
  exact this
theorem make25 (w : World) : (Instr.makeSlice 22 (i64 25) (i64 25)).run Tryd.prog w = .ok (.slice (some ⟨w.heap.size, 0, none⟩) 25 25) (w.alloc (.cells zeros50 24)) := by
  obtain ⟨i, hi, hz, hs, hb⟩ := info_parts infoK24
  have := run_makeSlice (P := Tryd.prog) w 22 24 i _ Tryd.underlying22 hi hz .i64 .i64 25 25 (by decide) (by decide) (by rw [hs]; decide) (by rw [hb]; decide) (by decide)
  rw [hs, show madeCells (Value.agg #[i64 0, i64 0]).cells (Int.toNat 25 * 2) = zeros50 by kernel_rfl] at this
  exact this
theorem setC {W : World} {g k : Nat} {cs : Array Value} {t : TypeId} (v : Value) (h : W.heap[g]? = some (.cells cs t (0, 0))) : (W.setCell ⟨g, k, none⟩ v).heap[g]? = some (.cells (cs.setIfInBounds k v) t (0, 0)) := by
  simp [World.setCell, Array.getElem?_modify, h]
/-- A span goes into a block of tides. -/
theorem KS.tide (h : KS z W g rows bads ts s11 s12 s13 s14) {t : Nat} (ht : t ∈ ts) {lo hi : Int} (hbad : spanOk ⟨lo, hi⟩ = false) :
    KS z ((W.setCell ⟨t, 0, none⟩ (i64 lo)).setCell ⟨t, 1, none⟩ (i64 hi)) g rows (t :: bads) ts s11 s12 s13 s14 := by
  obtain ⟨a, b, h1⟩ := h.tt t ht
  have hnew : ((W.setCell ⟨t, 0, none⟩ (i64 lo)).setCell ⟨t, 1, none⟩ (i64 hi)).heap[t]? = some (.cells (tide8 lo hi) 24 (0, 0)) := by
    exact setC (k := 1) (i64 hi) (setC (k := 0) (i64 lo) h1)
  have hoth : ∀ k, k ≠ t → ((W.setCell ⟨t, 0, none⟩ (i64 lo)).setCell ⟨t, 1, none⟩ (i64 hi)).heap[k]? = W.heap[k]? := fun k hk =>
    (Below.heap_setCell _ ⟨t, 1, none⟩ _ k hk).trans (Below.heap_setCell _ ⟨t, 0, none⟩ _ k hk)
  have q : ∀ {k : Nat} {o : Array Value} {ty : Nat}, W.heap[k]? = some (.cells o ty (0, 0)) → ty ≠ 24 → ((W.setCell ⟨t, 0, none⟩ (i64 lo)).setCell ⟨t, 1, none⟩ (i64 hi)).heap[k]? = some (.cells o ty (0, 0)) := fun {k o ty} h2 hne =>
    (hoth k (fun e => by subst e; rw [h1] at h2; injection h2 with h3; injection h3 with _ h4 _; exact hne h4.symm)).trans h2
  refine ⟨h.zg, h.zt, q h.hg (by decide), h.hr, fun u hu => ?_, fun u hu => ?_, q h.h11 (by decide), q h.h12 (by decide), q h.h13 (by decide), q h.h14 (by decide)⟩
  · by_cases e : u = t
    · subst e; exact ⟨lo, hi, hnew⟩
    · obtain ⟨c, d, h2⟩ := h.tt u hu; exact ⟨c, d, (hoth u e).trans h2⟩
  · by_cases e : u = t
    · subst e; exact ⟨lo, hi, hbad, hnew⟩
    · rcases List.mem_cons.1 hu with h0 | h0
      · exact absurd h0 e
      · obtain ⟨c, d, h3, h2⟩ := h.tb u h0; exact ⟨c, d, h3, (hoth u e).trans h2⟩
/-- A cell of the books' block is written. -/
theorem KS.cell (h : KS z W g rows bads ts s11 s12 s13 s14) (i j o : Nat) (v : Value) {r : Array Value} (hi : rows[i]? = some r) (hj : j < 14) (ho : o = 14 * i + j) :
    KS z (W.setCell ⟨g, o, none⟩ v) g (rows.set i (r.setIfInBounds j v)) bads ts s11 s12 s13 s14 := by
  subst ho
  have hnew := setC (k := 14 * i + j) v h.hg
  rw [rowsC_set h.hr i j v r hi hj] at hnew
  have hoth : ∀ k, k ≠ g → (W.setCell ⟨g, 14 * i + j, none⟩ v).heap[k]? = W.heap[k]? := fun k hk => Below.heap_setCell _ ⟨g, _, none⟩ _ k hk
  have q : ∀ {k : Nat} {o : Array Value} {ty : Nat}, W.heap[k]? = some (.cells o ty (0, 0)) → ty ≠ 30 → (W.setCell ⟨g, 14 * i + j, none⟩ v).heap[k]? = some (.cells o ty (0, 0)) := fun {k o ty} h2 hne =>
    (hoth k (fun e => by subst e; rw [h.hg] at h2; injection h2 with h3; injection h3 with _ h4 _; exact hne h4.symm)).trans h2
  refine ⟨h.zg, h.zt, hnew, fun x hx => ?_, fun u hu => ?_, fun u hu => ?_, q h.h11 (by decide), q h.h12 (by decide), q h.h13 (by decide), q h.h14 (by decide)⟩
  · rcases List.mem_or_eq_of_mem_set hx with hx | rfl
    · exact h.hr x hx
    · simpa using h.hr r (List.mem_of_getElem? hi)
  · obtain ⟨c, d, h2⟩ := h.tt u hu; exact ⟨c, d, q h2 (by decide)⟩
  · obtain ⟨c, d, h3, h2⟩ := h.tb u hu; exact ⟨c, d, h3, q h2 (by decide)⟩
theorem KS.at (h : KS z W g rows bads ts s11 s12 s13 s14) (i j o : Nat) {r : Array Value} {v : Value} (hi : rows[i]? = some r) (hj : j < 14) (ho : o = 14 * i + j) (hv : r[j]? = some v) : W.cell? ⟨g, o, none⟩ = some v := by
  subst ho
  rw [cells_of h.hg, rowsC_get h.hr, show (14 * i + j) / 14 = i by omega, show (14 * i + j) % 14 = j by omega, hi]
  exact hv
end
def rdKn1 (i : Nat) : List Nat := match i with
  | 0 => [52] | 1 => [53] | 2 => [54] | 3 => [55] | 4 => [56] | 5 => [57] | 6 => [58] | 7 => [59] | 8 => [60] | 9 => [61] | 10 => [62] | 11 => [63] | 12 => [64] | 13 => [65] | 14 => [66] | 15 => [67] | 16 => [68] | 17 => [69] | 18 => [70] | 19 => [71] | 20 => [72] | 21 => [73] | 22 => [74] | 23 => [1] | _ => []
def pureKn1 (i : Nat) : Bool := match i with
  | 1 => false | 2 => false | 3 => false | 4 => false | 5 => false | 6 => false | 7 => false | 8 => false | 9 => false | 10 => false | 12 => false | 13 => false | 15 => false | 16 => false | 18 => false | 19 => false | 20 => false | 21 => false | 22 => false | _ => true
def gKn1 (w : World) (i : Nat) (vs : List Value) (W : World) : Prop := match i with
  | 0 => vs = [.agg zero30]
  | 1 => ∃ t, vs = [.agg (ownC t)] ∧ T0 w.heap.size W t
  | 2 => ∃ t, vs = [.agg (ownC t)] ∧ T0 w.heap.size W t
  | 3 => ∃ t, vs = [.agg (ownC t)] ∧ T0 w.heap.size W t
  | 4 => ∃ t, vs = [.agg (ownC t)] ∧ T0 w.heap.size W t
  | 5 => ∃ t, vs = [.agg (ownC t)] ∧ T0 w.heap.size W t
  | 6 => ∃ t, vs = [.agg (ownC t)] ∧ T0 w.heap.size W t
  | 7 => ∃ t, vs = [.agg (ownC t)] ∧ T0 w.heap.size W t
  | 8 => ∃ t, vs = [.agg (ownC t)] ∧ T0 w.heap.size W t
  | 9 => ∃ t, vs = [.agg (ownC t)] ∧ T0 w.heap.size W t
  | 10 => ∃ t, vs = [.agg (ownC t)] ∧ T0 w.heap.size W t
  | 11 => vs = [.agg #[i64 4, i64 0, i64 0]]
  | 12 => ∃ g, vs = [.slice (some ⟨g, 0, none⟩) 1 1] ∧ W.heap[g]? = some (.cells #[i64 4, i64 0, i64 0] 70 (0, 0))
  | 13 => ∃ t s, vs = [.agg (bkC [⟨4, 0, 0⟩] t s 1)] ∧ T0 w.heap.size W t ∧ W.heap[s]? = some (.cells #[i64 4, i64 0, i64 0] 70 (0, 0))
  | 14 => vs = [.agg #[i64 0, i64 2, i64 0]]
  | 15 => ∃ g, vs = [.slice (some ⟨g, 0, none⟩) 1 1] ∧ W.heap[g]? = some (.cells #[i64 0, i64 2, i64 0] 70 (0, 0))
  | 16 => ∃ t s, vs = [.agg (bkC [⟨0, 2, 0⟩] t s 1)] ∧ T0 w.heap.size W t ∧ W.heap[s]? = some (.cells #[i64 0, i64 2, i64 0] 70 (0, 0))
  | 17 => vs = [.agg #[i64 0, i64 0, i64 121]]
  | 18 => ∃ g, vs = [.slice (some ⟨g, 0, none⟩) 1 1] ∧ W.heap[g]? = some (.cells #[i64 0, i64 0, i64 121] 70 (0, 0))
  | 19 => ∃ t s, vs = [.agg (bkC [⟨0, 0, 121⟩] t s 1)] ∧ T0 w.heap.size W t ∧ W.heap[s]? = some (.cells #[i64 0, i64 0, i64 121] 70 (0, 0))
  | 20 => ∃ g, vs = [.slice (some ⟨g, 0, none⟩) 7 7] ∧ W.heap[g]? = some (.cells zeros21 70 (0, 0))
  | 21 => ∃ t s, vs = [.agg (bkC [⟨0, 0, 0⟩, ⟨0, 0, 0⟩, ⟨0, 0, 0⟩, ⟨0, 0, 0⟩, ⟨0, 0, 0⟩, ⟨0, 0, 0⟩, ⟨0, 0, 0⟩] t s 7)] ∧ T0 w.heap.size W t ∧ W.heap[s]? = some (.cells zeros21 70 (0, 0))
  | 22 => ∃ g t1 t2 t3 t4 t5 t6 t7 t8 t9 t10 t11 t12 t13 t14 s11 s12 s13 s14, vs = [.slice (some ⟨g, 0, none⟩) 15 15] ∧ KS w.heap.size W g (rows0 t1 t2 t3 t4 t5 t6 t7 t8 t9 t10 t11 t12 t13 t14 s11 s12 s13 s14) [] [t1, t2, t3, t4, t5, t6, t7, t8, t9, t10, t11, t12, t13, t14] s11 s12 s13 s14
  | 23 => ∃ g t1 t2 t3 t4 t5 t6 t7 t8 t9 t10 t11 t12 t13 t14 s11 s12 s13 s14, vs = [.slice (some ⟨g, 0, none⟩) 15 15] ∧ KS w.heap.size W g (rows0 t1 t2 t3 t4 t5 t6 t7 t8 t9 t10 t11 t12 t13 t14 s11 s12 s13 s14) [] [t1, t2, t3, t4, t5, t6, t7, t8, t9, t10, t11, t12, t13, t14] s11 s12 s13 s14
  | _ => True
def Kn1Post (w : World) (act : Act) (W : World) : Prop := act.tmps.size = 496 ∧ act.defers = [] ∧ Below w.heap.size w W ∧ ∃ g t1 t2 t3 t4 t5 t6 t7 t8 t9 t10 t11 t12 t13 t14 s11 s12 s13 s14, slotOf act 1 = .slice (some ⟨g, 0, none⟩) 15 15 ∧ KS w.heap.size W g (rows0 t1 t2 t3 t4 t5 t6 t7 t8 t9 t10 t11 t12 t13 t14 s11 s12 s13 s14) [] [t1, t2, t3, t4, t5, t6, t7, t8, t9, t10, t11, t12, t13, t14] s11 s12 s13 s14
end Go.Proofs.YtkbmpkdflgimmaaDoor
