/- A book that comes in, read as data: its value, and its lists in memory. -/
import Derived.Test.YtkbmpkdflgimmaaDoorS6
import Derived.ProofKit
import Derived.OpenShut
import Derived.Deep.Slices
import Derived.SizedLaws
namespace Go.Proofs.YtkbmpkdflgimmaaDoor
open Go.RowKit Go.WideShapes Go.ChangeShapes Go.Deep
set_option maxRecDepth 100000

theorem list2 {α : Type} {l : List α} (h : l.length = 2) : ∃ a b, l = [a, b] := match l, h with | [a, b], _ => ⟨a, b, rfl⟩
theorem list3 {α : Type} {l : List α} (h : l.length = 3) : ∃ a b c, l = [a, b, c] := match l, h with | [a, b, c], _ => ⟨a, b, c, rfl⟩
theorem list4 {α : Type} {l : List α} (h : l.length = 4) : ∃ a b c d, l = [a, b, c, d] := match l, h with | [a, b, c, d], _ => ⟨a, b, c, d, rfl⟩
theorem list6 {α : Type} {l : List α} (h : l.length = 6) : ∃ a b c d e f, l = [a, b, c, d, e, f] := match l, h with | [a, b, c, d, e, f], _ => ⟨a, b, c, d, e, f, rfl⟩
theorem list8 {α : Type} {l : List α} (h : l.length = 8) : ∃ a b c d e f g k, l = [a, b, c, d, e, f, g, k] := match l, h with | [a, b, c, d, e, f, g, k], _ => ⟨a, b, c, d, e, f, g, k, rfl⟩
theorem list14 {α : Type} {l : List α} (h : l.length = 14) : ∃ a b c d e f g k m n o p q r, l = [a, b, c, d, e, f, g, k, m, n, o, p, q, r] := match l, h with | [a, b, c, d, e, f, g, k, m, n, o, p, q, r], _ => ⟨a, b, c, d, e, f, g, k, m, n, o, p, q, r, rfl⟩
section
variable {H : Type} {enc : TypeId × Value → H} {W : World} {base : Nat} {spare : Nat → Bool} {held : Bool} {fuel : Nat} {cs : List Value} {x : DataW H × List MemPlace}
theorem cells3 : Tryd.prog.cellsOf 3 = 1 := by kernel_rfl
theorem cells24 : Tryd.prog.cellsOf 24 = 2 := by kernel_rfl
theorem cells26 : Tryd.prog.cellsOf 26 = 4 := by kernel_rfl
theorem cells22 : Tryd.prog.cellsOf 22 = 1 := by kernel_rfl
theorem cells28 : Tryd.prog.cellsOf 28 = 1 := by kernel_rfl
theorem cells27 : Tryd.prog.cellsOf 27 = 8 := by kernel_rfl
theorem cells30 : Tryd.prog.cellsOf 30 = 14 := by kernel_rfl
theorem cells70 : Tryd.prog.cellsOf 70 = 3 := by kernel_rfl
theorem rd_int (h : DataW.trod enc Tryd.prog W base spare held fuel 3 cs = some x) : ∃ n : Int, cs = [i64 n] := by
  obtain ⟨n, h1, _⟩ := DataW.trod_int Tryd.underlying3 h
  exact ⟨n, h1⟩
theorem rd_span (h : DataW.trod enc Tryd.prog W base spare held fuel 24 cs = some x) : ∃ a b : Int, cs = [i64 a, i64 b] := by
  obtain ⟨xs, n, rfl, rfl, hlen, hxl, hel⟩ := DataW.trod_struct Tryd.underlying24 h
  rw [cells24] at hlen
  obtain ⟨c0, c1, rfl⟩ := list2 hlen
  obtain ⟨x0, x1, rfl⟩ := list2 (show xs.length = 2 from hxl)
  have h0 := hel 0 _ rfl
  have h1 := hel 1 _ rfl
  simp [cells3] at h0 h1
  obtain ⟨a, e0⟩ := rd_int h0
  obtain ⟨b, e1⟩ := rd_int h1
  simp at e0 e1
  subst e0 e1
  exact ⟨a, b, rfl⟩
theorem rd_shore (h : DataW.trod enc Tryd.prog W base spare held fuel 26 cs = some x) : ∃ a b c d : Int, cs = [i64 a, i64 b, i64 c, i64 d] := by
  obtain ⟨xs, n, rfl, rfl, hlen, hxl, hel⟩ := DataW.trod_struct Tryd.underlying26 h
  rw [cells26] at hlen
  obtain ⟨c0, c1, c2, c3, rfl⟩ := list4 hlen
  obtain ⟨x0, x1, x2, rfl⟩ := list3 (show xs.length = 3 from hxl)
  have h0 := hel 0 _ rfl
  have h1 := hel 1 _ rfl
  have h2 := hel 2 _ rfl
  simp [cells3, cells24] at h0 h1 h2
  obtain ⟨a, b, e0⟩ := rd_span h0
  obtain ⟨c, e1⟩ := rd_int h1
  obtain ⟨d, e2⟩ := rd_int h2
  simp at e0 e1 e2
  obtain ⟨rfl, rfl⟩ := e0
  subst e1 e2
  exact ⟨a, b, c, d, rfl⟩
theorem rd_sound (h : DataW.trod enc Tryd.prog W base spare held fuel 70 cs = some x) : ∃ a b c : Int, cs = [i64 a, i64 b, i64 c] := by
  obtain ⟨xs, n, rfl, rfl, hlen, hxl, hel⟩ := DataW.trod_struct Tryd.underlying70 h
  rw [cells70] at hlen
  obtain ⟨c0, c1, c2, rfl⟩ := list3 hlen
  obtain ⟨x0, x1, x2, rfl⟩ := list3 (show xs.length = 3 from hxl)
  have h0 := hel 0 _ rfl
  have h1 := hel 1 _ rfl
  have h2 := hel 2 _ rfl
  simp [cells3] at h0 h1 h2
  obtain ⟨a, e0⟩ := rd_int h0
  obtain ⟨c, e1⟩ := rd_int h1
  obtain ⟨d, e2⟩ := rd_int h2
  simp at e0 e1 e2
  subst e0 e1 e2
  exact ⟨a, c, d, rfl⟩
theorem rd_shores (h : DataW.trod enc Tryd.prog W base spare held fuel 27 cs = some x) : ∃ a b c d e f g k : Int, cs = [i64 a, i64 b, i64 c, i64 d, i64 e, i64 f, i64 g, i64 k] := by
  obtain ⟨xs, n, rfl, rfl, hlen, hxl, hel⟩ := DataW.trod_array Tryd.underlying27 h
  rw [cells27] at hlen
  obtain ⟨c0, c1, c2, c3, c4, c5, c6, c7, rfl⟩ := list8 hlen
  obtain ⟨x0, x1, rfl⟩ := list2 (show xs.length = 2 from hxl)
  have h0 := hel 0 (by decide)
  have h1 := hel 1 (by decide)
  simp [cells26] at h0 h1
  obtain ⟨a, b, c, d, e0⟩ := rd_shore h0
  obtain ⟨e, f, g, k, e1⟩ := rd_shore h1
  simp at e0 e1
  obtain ⟨rfl, rfl, rfl, rfl⟩ := e0
  obtain ⟨rfl, rfl, rfl, rfl⟩ := e1
  exact ⟨a, b, c, d, e, f, g, k, rfl⟩
theorem lt_of_cell {p : Addr} {v : Value} (h : W.cell? p = some v) : p.block < W.heap.size := by
  unfold World.cell? at h
  split at h
  · rename_i hb
    exact (Array.getElem?_eq_some_iff.1 (by assumption)).1
  · cases h
theorem add0 (p : Addr) : p.add 0 = p := by simp [Addr.add]
instance : Inhabited Span := ⟨⟨0, 0⟩⟩
instance : Inhabited Sound := ⟨⟨0, 0, 0⟩⟩
theorem bytes24 : Tryd.prog.bytesOf 24 = 16 := by kernel_rfl
theorem bytes70 : Tryd.prog.bytesOf 70 = 24 := by kernel_rfl
theorem rd_spans {c : Value} (h : DataW.trod enc Tryd.prog W base spare held fuel 22 [c] = some x) (hsz : ∀ n ∈ x.1.weights Tryd.prog 22, n ≤ reachBytes) :
    ∃ b o a l cap, c = .slice a (List.length l) cap ∧ SpansAt W.heap.size W b o a l := by
  rcases open_slice Tryd.underlying22 h with ⟨h1, _⟩ | ⟨a, len, cap, m, n, D, Pl, h1, _, hl, _, hm, rfl, hx⟩
  · simp at h1
    exact ⟨0, 0, none, [], 0, h1, ⟨by simp, fun h => absurd rfl h, fun h => absurd rfl h, fun k h => by simp at h, fun k h => by simp at h⟩⟩
  · simp at h1
    have hlm : len ≤ m := by rw [hm]; split <;> omega
    obtain ⟨f, hf⟩ := choose_lt (α := Span) (n := len) (p := fun i s => W.cell? (a.add (i * 2)) = some (i64 s.lo) ∧ W.cell? ((a.add (i * 2)).add 1) = some (i64 s.hi)) (fun i hi => by
      obtain ⟨cs', h2, h3⟩ := hx i (by omega)
      rw [cells24] at h2
      obtain ⟨_, _, h4⟩ := World.cells?_some h2
      obtain ⟨p, q, rfl⟩ := rd_span h3
      have e0 := h4 0 (by decide)
      have e1 := h4 1 (by decide)
      rw [add0] at e0
      simp only [List.getElem?_cons_zero, List.getElem?_cons_succ] at e0 e1
      exact ⟨⟨p, q⟩, e0, e1⟩)
    have hlen : len * 16 ≤ 140737488351232 := by
      have := hsz (((List.range len).map D).length * 16 + ((List.range (m - len)).map fun j => D (len + j)).length * 16) (by
        simp only [DataW.weights, Tryd.underlying22, bytes24, Nat.add_mul]
        simp)
      simp [reachBytes] at this
      omega
    have hlk : ((List.range len).map f).length = len := by simp
    obtain ⟨b, o, spot⟩ := a
    have hspot : len ≠ 0 → spot = none := fun h0 => by
      have := World.cell?_spot (hf 0 (by omega)).1
      simpa [Addr.add] using this
    refine ⟨b, o, some ⟨b, o, spot⟩, (List.range len).map f, cap, by rw [hlk]; exact h1, ⟨by rw [hlk]; exact hlen, fun hne => ?_, fun hne => ?_, fun k hk => ?_, fun k hk => ?_⟩⟩
    · rw [hspot (fun e => hne (by rw [e]; rfl))]
    · have h0 : 0 < len := Nat.pos_of_ne_zero (fun e => hne (by rw [e]; rfl))
      have := lt_of_cell (hf 0 h0).1
      simpa [Addr.add] using this
    · rw [hlk] at hk
      have h5 := (hf k hk).1
      rw [hspot (by omega)] at h5
      rw [show (⟨b, o, none⟩ : Addr).add (k * 2) = ⟨b, o + k * 2, none⟩ by unfold Addr.add; split <;> simp_all] at h5
      simpa using h5
    · rw [hlk] at hk
      have h5 := (hf k hk).2
      rw [hspot (by omega)] at h5
      rw [show (⟨b, o, none⟩ : Addr).add (k * 2) = ⟨b, o + k * 2, none⟩ by unfold Addr.add; split <;> simp_all] at h5
      simpa [Addr.add] using h5
theorem rd_sounds {c : Value} (h : DataW.trod enc Tryd.prog W base spare held fuel 28 [c] = some x) (hsz : ∀ n ∈ x.1.weights Tryd.prog 28, n ≤ reachBytes) :
    ∃ b o a l cap, c = .slice a (List.length l) cap ∧ SoundsAt W.heap.size W b o a l := by
  rcases open_slice Tryd.underlying28 h with ⟨h1, _⟩ | ⟨a, len, cap, m, n, D, Pl, h1, _, hl, _, hm, rfl, hx⟩
  · simp at h1
    exact ⟨0, 0, none, [], 0, h1, ⟨by simp, fun h => absurd rfl h, fun h => absurd rfl h, fun k h => by simp at h, fun k h => by simp at h, fun k h => by simp at h⟩⟩
  · simp at h1
    have hlm : len ≤ m := by rw [hm]; split <;> omega
    obtain ⟨f, hf⟩ := choose_lt (α := Sound) (n := len) (p := fun i s => W.cell? (a.add (i * 3)) = some (i64 s.hour) ∧ W.cell? ((a.add (i * 3)).add 1) = some (i64 s.shore) ∧ W.cell? ((a.add (i * 3)).add 2) = some (i64 s.deep)) (fun i hi => by
      obtain ⟨cs', h2, h3⟩ := hx i (by omega)
      rw [cells70] at h2
      obtain ⟨_, _, h4⟩ := World.cells?_some h2
      obtain ⟨p, q, r, rfl⟩ := rd_sound h3
      have e0 := h4 0 (by decide)
      have e1 := h4 1 (by decide)
      have e2 := h4 2 (by decide)
      rw [add0] at e0
      simp only [List.getElem?_cons_zero, List.getElem?_cons_succ] at e0 e1 e2
      exact ⟨⟨p, q, r⟩, e0, e1, e2⟩)
    have hlen : len * 24 ≤ 140737488351232 := by
      have := hsz (((List.range len).map D).length * 24 + ((List.range (m - len)).map fun j => D (len + j)).length * 24) (by
        simp only [DataW.weights, Tryd.underlying28, bytes70, Nat.add_mul]
        simp)
      simp [reachBytes] at this
      omega
    have hlk : ((List.range len).map f).length = len := by simp
    obtain ⟨b, o, spot⟩ := a
    have hspot : len ≠ 0 → spot = none := fun h0 => by
      have := World.cell?_spot (hf 0 (by omega)).1
      simpa [Addr.add] using this
    refine ⟨b, o, some ⟨b, o, spot⟩, (List.range len).map f, cap, by rw [hlk]; exact h1, ⟨by rw [hlk]; exact hlen, fun hne => ?_, fun hne => ?_, fun k hk => ?_, fun k hk => ?_, fun k hk => ?_⟩⟩
    · rw [hspot (fun e => hne (by rw [e]; rfl))]
    · have h0 : 0 < len := Nat.pos_of_ne_zero (fun e => hne (by rw [e]; rfl))
      have := lt_of_cell (hf 0 h0).1
      simpa [Addr.add] using this
    · rw [hlk] at hk
      have h5 := (hf k hk).1
      rw [hspot (by omega)] at h5
      rw [show (⟨b, o, none⟩ : Addr).add (k * 3) = ⟨b, o + k * 3, none⟩ by unfold Addr.add; split <;> simp_all] at h5
      simpa using h5
    · rw [hlk] at hk
      have h5 := (hf k hk).2.1
      rw [hspot (by omega)] at h5
      rw [show (⟨b, o, none⟩ : Addr).add (k * 3) = ⟨b, o + k * 3, none⟩ by unfold Addr.add; split <;> simp_all] at h5
      simpa [Addr.add] using h5
    · rw [hlk] at hk
      have h5 := (hf k hk).2.2
      rw [hspot (by omega)] at h5
      rw [show (⟨b, o, none⟩ : Addr).add (k * 3) = ⟨b, o + k * 3, none⟩ by unfold Addr.add; split <;> simp_all] at h5
      simpa [Addr.add] using h5
set_option maxRecDepth 100000 in
theorem rd_book {v : Value} {d : DataW H} {p : List MemPlace} {b0 : Nat} (hv : Value.okWide Tryd.prog W .any b0 30 v) (h : DataW.Trod enc Tryd.prog W base spare held 30 v d p) (hsz : ∀ n ∈ d.weights Tryd.prog 30, n ≤ reachBytes) : ∃ B, BookV W v B := by
  obtain ⟨cs, rfl, hcs⟩ := okWide_struct Tryd.underlying30 hv
  obtain ⟨fuel, hf⟩ := h
  obtain ⟨xs, n, rfl, hx, hlen, hxl, hel⟩ := DataW.trod_struct Tryd.underlying30 hf
  obtain ⟨l⟩ := cs
  rw [cells30] at hlen
  simp only [Value.cells] at hlen hel
  obtain ⟨c0, c1, c2, c3, c4, c5, c6, c7, c8, c9, c10, c11, c12, c13, rfl⟩ := list14 hlen
  obtain ⟨x0, x1, x2, x3, x4, x5, rfl⟩ := list6 (show xs.length = 6 from hxl)
  have h0 := hel 0 _ rfl
  have h1 := hel 1 _ rfl
  have h2 := hel 2 _ rfl
  have h3 := hel 3 _ rfl
  have h4 := hel 4 _ rfl
  have h5 := hel 5 _ rfl
  simp [cells22, cells27, cells24, cells3, cells28] at h0 h1 h2 h3 h4 h5
  simp only [List.map_cons, List.map_nil, Prod.mk.injEq] at hx
  obtain ⟨rfl, _⟩ := hx
  simp only [DataW.weights, Tryd.underlying30, List.map_cons, List.map_nil, DataW.weightsEach, List.append_nil, List.mem_append] at hsz
  obtain ⟨tb, tq, ta, lt, tc, e0, hT⟩ := rd_spans h0 (fun n hn => hsz n (.inl hn))
  obtain ⟨a1, a2, a3, a4, a5, a6, a7, a8, e1⟩ := rd_shores h1
  obtain ⟨b1, b2, e2⟩ := rd_span h2
  obtain ⟨s1, e3⟩ := rd_int h3
  obtain ⟨u1, e4⟩ := rd_int h4
  obtain ⟨sb, sq, sa, ls, sc, e5, hS⟩ := rd_sounds h5 (fun n hn => hsz n (by simp [hn]))
  simp at e1 e2 e3 e4
  obtain ⟨rfl, rfl, rfl, rfl, rfl, rfl, rfl, rfl⟩ := e1
  obtain ⟨rfl, rfl⟩ := e2
  subst e0 e3 e4 e5
  exact ⟨⟨lt, ⟨a1, a2, a3, a4⟩, ⟨a5, a6, a7, a8⟩, b1, b2, s1, u1, ls⟩, tb, tq, ta, tc, sb, sq, sa, sc, rfl, hT, hS⟩
theorem okWide_arr {t e : TypeId} {n b0 : Nat} {v : Value} (ht : Tryd.prog.underlying t = some (.array n e)) (h : Value.okWide Tryd.prog W .any b0 t v) : ∃ cs, v = .agg cs ∧ cs.size = Tryd.prog.cellsOf t := by
  simp only [Value.okWide, ht] at h
  obtain ⟨cs, h1, h2, _⟩ := h
  exact ⟨cs, h1, h2⟩
theorem cells37 : Tryd.prog.cellsOf 37 = 3 := by kernel_rfl
theorem cells31 : Tryd.prog.cellsOf 31 = 2 := by kernel_rfl
theorem cells63 : Tryd.prog.cellsOf 63 = 4 := by kernel_rfl
theorem rd_three {v : Value} {d : DataW H} {p : List MemPlace} {b0 : Nat} (hv : Value.okWide Tryd.prog W .any b0 37 v) (h : DataW.Trod enc Tryd.prog W base spare held 37 v d p) : ∃ a b c : Int, v = .agg #[i64 a, i64 b, i64 c] := by
  obtain ⟨⟨cs⟩, rfl, hcs⟩ := okWide_arr Tryd.underlying37 hv
  obtain ⟨fuel, hf⟩ := h
  obtain ⟨xs, n, rfl, hx, hlen, hxl, hel⟩ := DataW.trod_array Tryd.underlying37 hf
  rw [cells37] at hlen
  simp only [Value.cells] at hlen hel
  obtain ⟨c0, c1, c2, rfl⟩ := list3 hlen
  obtain ⟨x0, x1, x2, rfl⟩ := list3 hxl
  have h0 := hel 0 (by decide)
  have h1 := hel 1 (by decide)
  have h2 := hel 2 (by decide)
  simp [cells3] at h0 h1 h2
  obtain ⟨a, e0⟩ := rd_int h0
  obtain ⟨b, e1⟩ := rd_int h1
  obtain ⟨c, e2⟩ := rd_int h2
  simp at e0 e1 e2
  subst e0 e1 e2
  exact ⟨a, b, c, rfl⟩
theorem rd_two {v : Value} {d : DataW H} {p : List MemPlace} {b0 : Nat} (hv : Value.okWide Tryd.prog W .any b0 31 v) (h : DataW.Trod enc Tryd.prog W base spare held 31 v d p) : ∃ a b : Int, v = .agg #[i64 a, i64 b] := by
  obtain ⟨⟨cs⟩, rfl, hcs⟩ := okWide_arr Tryd.underlying31 hv
  obtain ⟨fuel, hf⟩ := h
  obtain ⟨xs, n, rfl, hx, hlen, hxl, hel⟩ := DataW.trod_array Tryd.underlying31 hf
  rw [cells31] at hlen
  simp only [Value.cells] at hlen hel
  obtain ⟨c0, c1, rfl⟩ := list2 hlen
  obtain ⟨x0, x1, rfl⟩ := list2 hxl
  have h0 := hel 0 (by decide)
  have h1 := hel 1 (by decide)
  simp [cells3] at h0 h1
  obtain ⟨a, e0⟩ := rd_int h0
  obtain ⟨b, e1⟩ := rd_int h1
  simp at e0 e1
  subst e0 e1
  exact ⟨a, b, rfl⟩
theorem rd_four {v : Value} {d : DataW H} {p : List MemPlace} {b0 : Nat} (hv : Value.okWide Tryd.prog W .any b0 63 v) (h : DataW.Trod enc Tryd.prog W base spare held 63 v d p) : ∃ a b c e : Int, v = .agg #[i64 a, i64 b, i64 c, i64 e] := by
  obtain ⟨⟨cs⟩, rfl, hcs⟩ := okWide_arr Tryd.underlying63 hv
  obtain ⟨fuel, hf⟩ := h
  obtain ⟨xs, n, rfl, hx, hlen, hxl, hel⟩ := DataW.trod_array Tryd.underlying63 hf
  rw [cells63] at hlen
  simp only [Value.cells] at hlen hel
  obtain ⟨c0, c1, c2, c3, rfl⟩ := list4 hlen
  obtain ⟨x0, x1, x2, x3, rfl⟩ := list4 hxl
  have h0 := hel 0 (by decide)
  have h1 := hel 1 (by decide)
  have h2 := hel 2 (by decide)
  have h3 := hel 3 (by decide)
  simp [cells3] at h0 h1 h2 h3
  obtain ⟨a, e0⟩ := rd_int h0
  obtain ⟨b, e1⟩ := rd_int h1
  obtain ⟨c, e2⟩ := rd_int h2
  obtain ⟨e, e3⟩ := rd_int h3
  simp at e0 e1 e2 e3
  subst e0 e1 e2 e3
  exact ⟨a, b, c, e, rfl⟩
end
end Go.Proofs.YtkbmpkdflgimmaaDoor
