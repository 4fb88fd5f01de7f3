/- LandingKnown answers true. (Printed by genknown4.py.) -/
import Derived.Test.YtkbmpkdflgimmaaDoorKnown3
import Derived.Test.YtkbmpkdflgimmaaDoorRL
namespace Go.Proofs.YtkbmpkdflgimmaaDoor
open Go.RowKit Go.Shelf

def rdKn2 (i : Nat) : List Nat := match i with
  | 0 => [75] | 1 => [76] | 2 => [77] | 3 => [78] | 4 => [79] | _ => []
def pureKn2 (i : Nat) : Bool := match i with
  | 4 => false | _ => true
def gKn2 (g t1 : Nat) (i : Nat) (vs : List Value) (_ : World) : Prop := match i with
  | 0 => vs = [.slice (some ⟨g, 0, none⟩) 15 15]
  | 1 => vs = [.pointer (some ⟨g, 14, none⟩)]
  | 2 => vs = [.pointer (some ⟨g, 14, none⟩)]
  | 3 => vs = [.slice (some ⟨t1, 0, none⟩) 4 4]
  | 4 => vs = [.agg #[i64 10, i64 15]]
  | _ => True
def rdKn3 (i : Nat) : List Nat := match i with
  | 0 => [81] | 1 => [82] | 2 => [83] | 3 => [84] | 4 => [85] | _ => []
def pureKn3 (i : Nat) : Bool := match i with
  | 4 => false | _ => true
def gKn3 (g t2 : Nat) (i : Nat) (vs : List Value) (_ : World) : Prop := match i with
  | 0 => vs = [.slice (some ⟨g, 0, none⟩) 15 15]
  | 1 => vs = [.pointer (some ⟨g, 28, none⟩)]
  | 2 => vs = [.pointer (some ⟨g, 28, none⟩)]
  | 3 => vs = [.slice (some ⟨t2, 0, none⟩) 4 4]
  | 4 => vs = [.agg #[i64 81, i64 81]]
  | _ => True
def rdKn4 (i : Nat) : List Nat := match i with
  | 0 => [87] | 1 => [88] | 2 => [89] | 3 => [90] | 4 => [91] | _ => []
def pureKn4 (i : Nat) : Bool := match i with
  | 4 => false | _ => true
def gKn4 (g t3 : Nat) (i : Nat) (vs : List Value) (_ : World) : Prop := match i with
  | 0 => vs = [.slice (some ⟨g, 0, none⟩) 15 15]
  | 1 => vs = [.pointer (some ⟨g, 42, none⟩)]
  | 2 => vs = [.pointer (some ⟨g, 42, none⟩)]
  | 3 => vs = [.slice (some ⟨t3, 0, none⟩) 4 4]
  | 4 => vs = [.agg #[i64 12, i64 10]]
  | _ => True
def rdKn5 (i : Nat) : List Nat := match i with
  | 0 => [93] | 1 => [94] | 2 => [95] | 3 => [96] | 4 => [97] | 5 => [98] | _ => []
def pureKn5 (i : Nat) : Bool := match i with
  | 1 => false | _ => true
def gKn5 (g : Nat) (i : Nat) (vs : List Value) (_ : World) : Prop := match i with
  | 0 => vs = [.slice (some ⟨g, 0, none⟩) 15 15]
  | 1 => vs = [.agg #[i64 (-41), i64 (-41)]]
  | 2 => vs = [.pointer (some ⟨g, 56, none⟩)]
  | 3 => vs = [.pointer (some ⟨g, 57, none⟩)]
  | 4 => vs = [.pointer (some ⟨g, 61, none⟩)]
  | 5 => vs = [.pointer (some ⟨g, 61, none⟩)]
  | _ => True
theorem idx83 (g k o : Nat) (W : World) (h : k < 15) (ho : o = k * 14) : (Instr.indexAt 83 (.slice (some ⟨g, 0, none⟩) 15 15) (.int .i64 (k : Int))).run Tryd.prog W = .ok (.pointer (some ⟨g, o, none⟩)) W := by
  have := run_index (n := 15) (c := 15) (b := g) (o := 0) (s := 14) W Tryd.underlying83 (by kernel_rfl) rfl h
  rw [Nat.zero_add] at this
  rw [ho]
  exact this

abbrev bookT (lo hi : Int) (l : List Sound) : Book := { tides := [⟨lo, hi⟩, ⟨14, 15⟩, ⟨18, 20⟩, ⟨16, 17⟩], s0 := ⟨2, 3, 10, 19⟩, s1 := ⟨4, 5, 12, 20⟩, el := 5, eh := 6, sink := 10, under := 1, sounds := l }
abbrev bookZ : Book := { tides := [], s0 := ⟨0, 0, 0, 0⟩, s1 := ⟨0, 0, 0, 0⟩, el := 0, eh := 0, sink := 0, under := 0, sounds := [] }
abbrev tides25 : List Span := [⟨0, 0⟩, ⟨0, 0⟩, ⟨0, 0⟩, ⟨0, 0⟩, ⟨0, 0⟩, ⟨0, 0⟩, ⟨0, 0⟩, ⟨0, 0⟩, ⟨0, 0⟩, ⟨0, 0⟩, ⟨0, 0⟩, ⟨0, 0⟩, ⟨0, 0⟩, ⟨0, 0⟩, ⟨0, 0⟩, ⟨0, 0⟩, ⟨0, 0⟩, ⟨0, 0⟩, ⟨0, 0⟩, ⟨0, 0⟩, ⟨0, 0⟩, ⟨0, 0⟩, ⟨0, 0⟩, ⟨0, 0⟩, ⟨0, 0⟩]
abbrev book25 : Book := { bookT 0 0 [] with tides := tides25 }
theorem vf1 {B : Book} (h : hdrB B = false) : B.valid = false := by simp [Book.valid, h]
theorem vf2 {B : Book} (h : B.tides.all spanOk = false) : B.valid = false := by simp only [Book.valid, h, Bool.and_false, Bool.false_and]
theorem vf3 {B : Book} (h : shoreOk B.s0 = false) : B.valid = false := by simp [Book.valid, h]
theorem vf4 {B : Book} (h : shoreOk B.s1 = false) : B.valid = false := by simp [Book.valid, h]
theorem vf5 {B : Book} (h : B.sounds.all (soundOk B.tides.length) = false) : B.valid = false := by simp only [Book.valid, h, Bool.and_false]
theorem spans4 {W : World} {b : Nat} {lo hi : Int} (h : W.heap[b]? = some (.cells (tide8 lo hi) 24 (0, 0))) : SpansAt W.heap.size W b 0 (some ⟨b, 0, none⟩) [⟨lo, hi⟩, ⟨14, 15⟩, ⟨18, 20⟩, ⟨16, 17⟩] := by
  have hc := cells_of h
  refine ⟨show 4 * 16 ≤ 140737488351232 by decide, fun _ => rfl, fun _ => (Array.getElem?_eq_some_iff.1 h).1, fun k hk => ?_, fun k hk => ?_⟩ <;> (rw [hc]; match k, hk with | 0, _ => rfl | 1, _ => rfl | 2, _ => rfl | 3, _ => rfl)
theorem spans25 {W : World} {b : Nat} (h : W.heap[b]? = some (.cells zeros50 24 (0, 0))) : SpansAt W.heap.size W b 0 (some ⟨b, 0, none⟩) tides25 := by
  have hc := cells_of h
  refine ⟨show 25 * 16 ≤ 140737488351232 by decide, fun _ => rfl, fun _ => (Array.getElem?_eq_some_iff.1 h).1, fun k (hk : k < 25) => ?_, fun k (hk : k < 25) => ?_⟩ <;> (rw [hc]; match k, hk with | 0, _ => rfl | 1, _ => rfl | 2, _ => rfl | 3, _ => rfl | 4, _ => rfl | 5, _ => rfl | 6, _ => rfl | 7, _ => rfl | 8, _ => rfl | 9, _ => rfl | 10, _ => rfl | 11, _ => rfl | 12, _ => rfl | 13, _ => rfl | 14, _ => rfl | 15, _ => rfl | 16, _ => rfl | 17, _ => rfl | 18, _ => rfl | 19, _ => rfl | 20, _ => rfl | 21, _ => rfl | 22, _ => rfl | 23, _ => rfl | 24, _ => rfl | k + 25, h => exact absurd h (by omega))
theorem KS.zlt {z : Nat} {W : World} {g : Nat} {rows : List (Array Value)} {bads ts : List Nat} {s11 s12 s13 s14 : Nat} (h : KS z W g rows bads ts s11 s12 s13 s14) : g < W.heap.size := (Array.getElem?_eq_some_iff.1 h.hg).1
/-- Row i of a block holds a book that is no book. -/
def RB (W : World) (g i : Nat) (B : Book) (ta : Option Addr) (tc : Nat) (sa : Option Addr) (sc : Nat) : Prop := g < W.heap.size ∧ W.rangeAt g (i * 14) (bookCells B ta tc sa sc).toList ∧ BookV W (bookVal B ta tc sa sc) B ∧ B.valid = false
theorem RB.below {W W' : World} {g i : Nat} {B : Book} {ta : Option Addr} {tc : Nat} {sa : Option Addr} {sc : Nat} (h : RB W g i B ta tc sa sc) (hb : Below W.heap.size W W') : RB W' g i B ta tc sa sc :=
  ⟨Nat.lt_of_lt_of_le h.1 hb.size, fun j v hv => (hb.cell (p := ⟨g, _, none⟩) h.1).trans (h.2.1 j v hv), h.2.2.1.below hb, h.2.2.2⟩
def rowsF (t1 t2 t3 t4 t5 t6 t7 t8 t9 _t10 t11 t12 t13 t14 s11 s12 s13 s14 u : Nat) : List (Array Value) := [zero30, ownC t1, ownC t2, ownC t3, bookCells ({ bookT 10 12 [] with s1 := ⟨-41, -41, 12, 20⟩ }) (some ⟨t4, 0, none⟩) 4 none 0, bookCells ({ bookT 10 12 [] with s0 := ⟨2, 3, 20, 19⟩ }) (some ⟨t5, 0, none⟩) 4 none 0, bookCells ({ bookT 10 12 [] with s0 := ⟨2, 3, 10, 81⟩ }) (some ⟨t6, 0, none⟩) 4 none 0, bookCells ({ bookT 10 12 [] with el := 5, eh := 10 }) (some ⟨t7, 0, none⟩) 4 none 0, bookCells ({ bookT 10 12 [] with sink := 0 }) (some ⟨t8, 0, none⟩) 4 none 0, bookCells ({ bookT 10 12 [] with under := 11 }) (some ⟨t9, 0, none⟩) 4 none 0, bookCells book25 (some ⟨u, 0, none⟩) 25 none 0, bkC [⟨4, 0, 0⟩] t11 s11 1, bkC [⟨0, 2, 0⟩] t12 s12 1, bkC [⟨0, 0, 121⟩] t13 s13 1, bkC [⟨0, 0, 0⟩, ⟨0, 0, 0⟩, ⟨0, 0, 0⟩, ⟨0, 0, 0⟩, ⟨0, 0, 0⟩, ⟨0, 0, 0⟩, ⟨0, 0, 0⟩] t14 s14 7]
theorem kb {z : Nat} {W : World} {g t1 t2 t3 t4 t5 t6 t7 t8 t9 t10 t11 t12 t13 t14 s11 s12 s13 s14 u : Nat} (h : KS z W g (rowsF t1 t2 t3 t4 t5 t6 t7 t8 t9 t10 t11 t12 t13 t14 s11 s12 s13 s14 u) [t3, t2, t1] [t1, t2, t3, t4, t5, t6, t7, t8, t9, t10, t11, t12, t13, t14] s11 s12 s13 s14) (hu : W.heap[u]? = some (.cells zeros50 24 (0, 0))) :
    ∀ i, i < 15 → ∃ (B : Book) (ta : Option Addr) (tc : Nat) (sa : Option Addr) (sc : Nat), RB W g i B ta tc sa sc := by
  intro i hi
  match i, hi with
  | 0, _ => exact ⟨bookZ, none, 0, none, 0, h.zlt, rows_range h.hr h.hg (i := 0) rfl, ⟨0, 0, none, 0, 0, 0, none, 0, rfl, ⟨show 0 * 16 ≤ 140737488351232 by decide, fun h => absurd rfl h, fun h => absurd rfl h, fun k h => absurd h (Nat.not_lt_zero k), fun k h => absurd h (Nat.not_lt_zero k)⟩, ⟨show 0 * 24 ≤ 140737488351232 by decide, fun h => absurd rfl h, fun h => absurd rfl h, fun k h => absurd h (Nat.not_lt_zero k), fun k h => absurd h (Nat.not_lt_zero k), fun k h => absurd h (Nat.not_lt_zero k)⟩⟩, vf1 rfl⟩
  | 1, _ =>
    obtain ⟨lo, hi, hbad, hT⟩ := h.tb t1 (by simp)
    exact ⟨bookT lo hi [], some ⟨t1, 0, none⟩, 4, none, 0, h.zlt, rows_range h.hr h.hg (i := 1) rfl, ⟨t1, 0, _, 4, 0, 0, none, 0, rfl, spans4 hT, ⟨show 0 * 24 ≤ 140737488351232 by decide, fun h => absurd rfl h, fun h => absurd rfl h, fun k h => absurd h (Nat.not_lt_zero k), fun k h => absurd h (Nat.not_lt_zero k), fun k h => absurd h (Nat.not_lt_zero k)⟩⟩, vf2 (by show (spanOk ⟨lo, hi⟩ && _) = false; rw [hbad]; rfl)⟩
  | 2, _ =>
    obtain ⟨lo, hi, hbad, hT⟩ := h.tb t2 (by simp)
    exact ⟨bookT lo hi [], some ⟨t2, 0, none⟩, 4, none, 0, h.zlt, rows_range h.hr h.hg (i := 2) rfl, ⟨t2, 0, _, 4, 0, 0, none, 0, rfl, spans4 hT, ⟨show 0 * 24 ≤ 140737488351232 by decide, fun h => absurd rfl h, fun h => absurd rfl h, fun k h => absurd h (Nat.not_lt_zero k), fun k h => absurd h (Nat.not_lt_zero k), fun k h => absurd h (Nat.not_lt_zero k)⟩⟩, vf2 (by show (spanOk ⟨lo, hi⟩ && _) = false; rw [hbad]; rfl)⟩
  | 3, _ =>
    obtain ⟨lo, hi, hbad, hT⟩ := h.tb t3 (by simp)
    exact ⟨bookT lo hi [], some ⟨t3, 0, none⟩, 4, none, 0, h.zlt, rows_range h.hr h.hg (i := 3) rfl, ⟨t3, 0, _, 4, 0, 0, none, 0, rfl, spans4 hT, ⟨show 0 * 24 ≤ 140737488351232 by decide, fun h => absurd rfl h, fun h => absurd rfl h, fun k h => absurd h (Nat.not_lt_zero k), fun k h => absurd h (Nat.not_lt_zero k), fun k h => absurd h (Nat.not_lt_zero k)⟩⟩, vf2 (by show (spanOk ⟨lo, hi⟩ && _) = false; rw [hbad]; rfl)⟩
  | 4, _ =>
    obtain ⟨lo, hi, hT⟩ := h.tt t4 (by simp)
    exact ⟨{ bookT lo hi [] with s1 := ⟨-41, -41, 12, 20⟩ }, some ⟨t4, 0, none⟩, 4, none, 0, h.zlt, rows_range h.hr h.hg (i := 4) rfl, ⟨t4, 0, _, 4, 0, 0, none, 0, rfl, spans4 hT, ⟨show 0 * 24 ≤ 140737488351232 by decide, fun h => absurd rfl h, fun h => absurd rfl h, fun k h => absurd h (Nat.not_lt_zero k), fun k h => absurd h (Nat.not_lt_zero k), fun k h => absurd h (Nat.not_lt_zero k)⟩⟩, vf4 rfl⟩
  | 5, _ =>
    obtain ⟨lo, hi, hT⟩ := h.tt t5 (by simp)
    exact ⟨{ bookT lo hi [] with s0 := ⟨2, 3, 20, 19⟩ }, some ⟨t5, 0, none⟩, 4, none, 0, h.zlt, rows_range h.hr h.hg (i := 5) rfl, ⟨t5, 0, _, 4, 0, 0, none, 0, rfl, spans4 hT, ⟨show 0 * 24 ≤ 140737488351232 by decide, fun h => absurd rfl h, fun h => absurd rfl h, fun k h => absurd h (Nat.not_lt_zero k), fun k h => absurd h (Nat.not_lt_zero k), fun k h => absurd h (Nat.not_lt_zero k)⟩⟩, vf3 rfl⟩
  | 6, _ =>
    obtain ⟨lo, hi, hT⟩ := h.tt t6 (by simp)
    exact ⟨{ bookT lo hi [] with s0 := ⟨2, 3, 10, 81⟩ }, some ⟨t6, 0, none⟩, 4, none, 0, h.zlt, rows_range h.hr h.hg (i := 6) rfl, ⟨t6, 0, _, 4, 0, 0, none, 0, rfl, spans4 hT, ⟨show 0 * 24 ≤ 140737488351232 by decide, fun h => absurd rfl h, fun h => absurd rfl h, fun k h => absurd h (Nat.not_lt_zero k), fun k h => absurd h (Nat.not_lt_zero k), fun k h => absurd h (Nat.not_lt_zero k)⟩⟩, vf3 rfl⟩
  | 7, _ =>
    obtain ⟨lo, hi, hT⟩ := h.tt t7 (by simp)
    exact ⟨{ bookT lo hi [] with el := 5, eh := 10 }, some ⟨t7, 0, none⟩, 4, none, 0, h.zlt, rows_range h.hr h.hg (i := 7) rfl, ⟨t7, 0, _, 4, 0, 0, none, 0, rfl, spans4 hT, ⟨show 0 * 24 ≤ 140737488351232 by decide, fun h => absurd rfl h, fun h => absurd rfl h, fun k h => absurd h (Nat.not_lt_zero k), fun k h => absurd h (Nat.not_lt_zero k), fun k h => absurd h (Nat.not_lt_zero k)⟩⟩, vf1 rfl⟩
  | 8, _ =>
    obtain ⟨lo, hi, hT⟩ := h.tt t8 (by simp)
    exact ⟨{ bookT lo hi [] with sink := 0 }, some ⟨t8, 0, none⟩, 4, none, 0, h.zlt, rows_range h.hr h.hg (i := 8) rfl, ⟨t8, 0, _, 4, 0, 0, none, 0, rfl, spans4 hT, ⟨show 0 * 24 ≤ 140737488351232 by decide, fun h => absurd rfl h, fun h => absurd rfl h, fun k h => absurd h (Nat.not_lt_zero k), fun k h => absurd h (Nat.not_lt_zero k), fun k h => absurd h (Nat.not_lt_zero k)⟩⟩, vf1 rfl⟩
  | 9, _ =>
    obtain ⟨lo, hi, hT⟩ := h.tt t9 (by simp)
    exact ⟨{ bookT lo hi [] with under := 11 }, some ⟨t9, 0, none⟩, 4, none, 0, h.zlt, rows_range h.hr h.hg (i := 9) rfl, ⟨t9, 0, _, 4, 0, 0, none, 0, rfl, spans4 hT, ⟨show 0 * 24 ≤ 140737488351232 by decide, fun h => absurd rfl h, fun h => absurd rfl h, fun k h => absurd h (Nat.not_lt_zero k), fun k h => absurd h (Nat.not_lt_zero k), fun k h => absurd h (Nat.not_lt_zero k)⟩⟩, vf1 rfl⟩
  | 10, _ => exact ⟨book25, some ⟨u, 0, none⟩, 25, none, 0, h.zlt, rows_range h.hr h.hg (i := 10) rfl, ⟨u, 0, _, 25, 0, 0, none, 0, rfl, spans25 hu, ⟨show 0 * 24 ≤ 140737488351232 by decide, fun h => absurd rfl h, fun h => absurd rfl h, fun k h => absurd h (Nat.not_lt_zero k), fun k h => absurd h (Nat.not_lt_zero k), fun k h => absurd h (Nat.not_lt_zero k)⟩⟩, vf1 rfl⟩
  | 11, _ =>
    obtain ⟨lo, hi, hT⟩ := h.tt t11 (by simp)
    exact ⟨bookT lo hi [⟨4, 0, 0⟩], some ⟨t11, 0, none⟩, 4, some ⟨s11, 0, none⟩, 1, h.zlt, rows_range h.hr h.hg (i := 11) rfl, ⟨t11, 0, _, 4, s11, 0, _, 1, rfl, spans4 hT, sounds1 (x := ⟨4, 0, 0⟩) h.h11⟩, vf5 rfl⟩
  | 12, _ =>
    obtain ⟨lo, hi, hT⟩ := h.tt t12 (by simp)
    exact ⟨bookT lo hi [⟨0, 2, 0⟩], some ⟨t12, 0, none⟩, 4, some ⟨s12, 0, none⟩, 1, h.zlt, rows_range h.hr h.hg (i := 12) rfl, ⟨t12, 0, _, 4, s12, 0, _, 1, rfl, spans4 hT, sounds1 (x := ⟨0, 2, 0⟩) h.h12⟩, vf5 rfl⟩
  | 13, _ =>
    obtain ⟨lo, hi, hT⟩ := h.tt t13 (by simp)
    exact ⟨bookT lo hi [⟨0, 0, 121⟩], some ⟨t13, 0, none⟩, 4, some ⟨s13, 0, none⟩, 1, h.zlt, rows_range h.hr h.hg (i := 13) rfl, ⟨t13, 0, _, 4, s13, 0, _, 1, rfl, spans4 hT, sounds1 (x := ⟨0, 0, 121⟩) h.h13⟩, vf5 rfl⟩
  | 14, _ =>
    obtain ⟨lo, hi, hT⟩ := h.tt t14 (by simp)
    exact ⟨bookT lo hi [⟨0, 0, 0⟩, ⟨0, 0, 0⟩, ⟨0, 0, 0⟩, ⟨0, 0, 0⟩, ⟨0, 0, 0⟩, ⟨0, 0, 0⟩, ⟨0, 0, 0⟩], some ⟨t14, 0, none⟩, 4, some ⟨s14, 0, none⟩, 7, h.zlt, rows_range h.hr h.hg (i := 14) rfl, ⟨t14, 0, _, 4, s14, 0, _, 7, rfl, spans4 hT, sounds7 h.h14⟩, vf1 rfl⟩
def KnR (g : Nat) (W0 : World) (a : Act) (W : World) : Prop := ∃ i : Nat, i ≤ 15 ∧ a.tmps.size = 496 ∧ a.defers = [] ∧ slotOf a 1 = .slice (some ⟨g, 0, none⟩) 15 15 ∧ slotOf a 2 = i64 i ∧ Below W0.heap.size W0 W
def knM (n t : Nat) (a : Act) : Nat := n - (intOf (slotOf a t)).toNat
theorem knM_lt {n t i : Nat} {a b : Act} (hi : i < n) (ha : slotOf a t = i64 i) (hb : slotOf b t = i64 ((i : Int) + 1)) : knM n t b < knM n t a := by
  unfold knM
  rw [ha, hb]
  show n - ((i : Int) + 1).toNat < n - (i : Int).toNat
  omega

abbrev kindsC : Array Value := #[i64 1, i64 0, i64 0, i64 1, i64 0, i64 2, i64 0, i64 1, i64 1, i64 0, i64 40, i64 0, i64 0, i64 0, i64 0, i64 2, i64 0, i64 0, i64 1, i64 1]
theorem kinds (k : Nat) (hk : k < 5) : ∃ a0 a1 a2 a3 : Int, kindsC[k * 4]? = some (i64 a0) ∧ kindsC[k * 4 + 1]? = some (i64 a1) ∧ kindsC[k * 4 + 2]? = some (i64 a2) ∧ kindsC[k * 4 + 3]? = some (i64 a3) ∧ landsR ownK a0 a1 a2 = (a3, 0) :=
  match k, hk with
  | 0, _ => ⟨1, 0, 0, 1, rfl, rfl, rfl, rfl, k11⟩
  | 1, _ => ⟨0, 2, 0, 1, rfl, rfl, rfl, rfl, k12⟩
  | 2, _ => ⟨1, 0, 40, 0, rfl, rfl, rfl, rfl, k13⟩
  | 3, _ => ⟨0, 0, 0, 2, rfl, rfl, rfl, rfl, k14⟩
  | 4, _ => ⟨0, 0, 1, 1, rfl, rfl, rfl, rfl, k15⟩
theorem idx84 (g k : Nat) (W : World) (h : k < 5) : (Instr.indexAt 84 (.slice (some ⟨g, 0, none⟩) 5 5) (.int .i64 (k : Int))).run Tryd.prog W = .ok (.pointer (some ⟨g, k * 4, none⟩)) W := by
  have := run_index (n := 5) (c := 5) (b := g) (o := 0) (s := 4) W Tryd.underlying84 (by kernel_rfl) rfl h
  rw [Nat.zero_add] at this
  exact this
theorem listV2 {W : World} {g : Nat} {x y : Int} (h : W.heap[g]? = some (.cells #[i64 x, i64 y] 3 (0, 0))) : ListV W (.slice (some ⟨g, 0, none⟩) 2 2) [x, y] := by
  have hc := cells_of h
  refine ⟨g, 0, _, 2, rfl, Nat.le_refl _, ⟨show 2 * 8 ≤ 140737488351232 by decide, fun _ => rfl, fun _ => (Array.getElem?_eq_some_iff.1 h).1, fun k hk => ?_⟩⟩
  rw [hc]
  match k, hk with
  | 0, _ => rfl
  | 1, _ => rfl
def KiR (g : Nat) (W0 : World) (a : Act) (W : World) : Prop := ∃ k : Nat, k ≤ 5 ∧ a.tmps.size = 496 ∧ a.defers = [] ∧ slotOf a 39 = .slice (some ⟨g, 0, none⟩) 5 5 ∧ slotOf a 40 = i64 k ∧ Below W0.heap.size W0 W
def rdKn41 (i : Nat) : List Nat := match i with
  | 0 => [332] | 1 => [333] | 2 => [334] | 3 => [335] | 4 => [336] | 5 => [337] | 6 => [338] | 7 => [339] | 8 => [340] | 9 => [341] | 10 => [342] | 11 => [343] | 12 => [344] | 13 => [345] | 14 => [346] | 15 => [347] | 16 => [348] | 17 => [331] | 18 => [349] | 19 => [350] | 20 => [41] | 21 => [42] | _ => []
def pureKn41 (i : Nat) : Bool := match i with
  | 0 => false | 16 => false | _ => true
def gKn41 (g2 k : Nat) (a0 a1 a2 a3 : Int) (i : Nat) (vs : List Value) (W : World) : Prop := match i with
  | 0 => ∃ v, vs = [v] ∧ BookV W v ownK
  | 1 => vs = [.slice (some ⟨g2, 0, none⟩) 5 5]
  | 2 => vs = [i64 k]
  | 3 => vs = [.pointer (some ⟨g2, k * 4, none⟩)]
  | 4 => vs = [.pointer (some ⟨g2, k * 4, none⟩)]
  | 5 => vs = [i64 a0]
  | 6 => vs = [.slice (some ⟨g2, 0, none⟩) 5 5]
  | 7 => vs = [i64 k]
  | 8 => vs = [.pointer (some ⟨g2, k * 4, none⟩)]
  | 9 => vs = [.pointer (some ⟨g2, k * 4 + 1, none⟩)]
  | 10 => vs = [i64 a1]
  | 11 => vs = [.slice (some ⟨g2, 0, none⟩) 5 5]
  | 12 => vs = [i64 k]
  | 13 => vs = [.pointer (some ⟨g2, k * 4, none⟩)]
  | 14 => vs = [.pointer (some ⟨g2, k * 4 + 2, none⟩)]
  | 15 => vs = [i64 a2]
  | 16 => vs = [.tuple #[i64 a3, i64 0]]
  | 17 => vs = [.tuple #[i64 a3, i64 0]]
  | 18 => vs = [i64 a3]
  | 19 => vs = [i64 0]
  | 20 => vs = [i64 a3]
  | 21 => vs = [i64 0]
  | _ => True
def rdKn54 (i : Nat) : List Nat := match i with
  | 0 => [412] | 1 => [413] | 2 => [414] | 3 => [415] | 4 => [416] | 5 => [417] | 6 => [418] | 7 => [419] | 8 => [420] | 9 => [421] | 10 => [422] | 11 => [423] | 12 => [424] | 13 => [425] | 14 => [426] | 15 => [427] | 16 => [428] | 17 => [429] | 18 => [430] | 19 => [431] | 20 => [432] | 21 => [433] | 22 => [434] | 23 => [435] | 24 => [436] | 25 => [437] | 26 => [438] | 27 => [439] | 28 => [440] | 29 => [441] | 30 => [442] | 31 => [443] | 32 => [444] | 33 => [445] | 34 => [446] | 35 => [447] | 36 => [448] | 37 => [449] | 38 => [450] | 39 => [451] | 40 => [452] | 41 => [453] | 42 => [454] | 43 => [455] | 44 => [456] | 45 => [457] | 46 => [458] | 47 => [459] | 48 => [460] | 49 => [461] | 50 => [462] | 51 => [463] | 52 => [464] | 53 => [465] | 54 => [466] | 55 => [467] | 56 => [468] | 57 => [469] | 58 => [470] | 59 => [471] | 60 => [472] | 61 => [473] | 62 => [474] | 63 => [475] | 64 => [476] | 65 => [477] | 66 => [478] | 67 => [479] | 68 => [480] | 69 => [481] | 70 => [482] | 71 => [483] | 72 => [484] | 73 => [485] | 74 => [486] | 75 => [487] | 76 => [488] | 77 => [489] | 78 => [490] | 79 => [491] | 80 => [492] | 81 => [493] | 82 => [494] | 83 => [495] | 84 => [0] | _ => []
def pureKn54 (i : Nat) : Bool := match i with
  | 4 => false | 13 => false | 46 => false | 47 => false | 55 => false | 56 => false | 82 => false | _ => true
def gKn54 (l1 l2 : Value) (wa : Option Addr) (wc : Nat) (i : Nat) (vs : List Value) (W : World) : Prop := match i with
  | 0 => vs = [i64 0]
  | 1 => vs = [.bool true]
  | 2 => vs = [.bool true]
  | 3 => vs = [.agg #[i64 10, i64 12]]
  | 4 => vs = [.agg #[i64 10, i64 12]]
  | 5 => vs = [.bool true]
  | 6 => vs = [.bool true]
  | 7 => vs = [.bool true]
  | 8 => vs = [i64 0]
  | 9 => vs = [.bool true]
  | 10 => vs = [.bool true]
  | 11 => vs = [.bool true]
  | 12 => vs = [.agg #[i64 2, i64 2]]
  | 13 => vs = [.agg #[i64 2, i64 2]]
  | 14 => vs = [.bool true]
  | 15 => vs = [.bool true]
  | 16 => vs = [.bool true]
  | 17 => vs = [i64 0]
  | 18 => vs = [.bool true]
  | 19 => vs = [.bool true]
  | 20 => vs = [.bool true]
  | 21 => vs = [i64 40]
  | 22 => vs = [.bool true]
  | 23 => vs = [.bool true]
  | 24 => vs = [.bool true]
  | 25 => vs = [i64 0]
  | 26 => vs = [.bool true]
  | 27 => vs = [.bool true]
  | 28 => vs = [.bool true]
  | 29 => vs = [i64 1]
  | 30 => vs = [.bool true]
  | 31 => vs = [.bool true]
  | 32 => vs = [.bool true]
  | 33 => vs = [i64 0]
  | 34 => vs = [.bool true]
  | 35 => vs = [.bool true]
  | 36 => vs = [.bool true]
  | 37 => vs = [i64 2]
  | 38 => vs = [.bool true]
  | 39 => vs = [.bool true]
  | 40 => vs = [.bool true]
  | 41 => vs = [i64 0]
  | 42 => vs = [.bool true]
  | 43 => vs = [.bool true]
  | 44 => vs = [.bool true]
  | 45 => vs = [l1]
  | 46 => ∃ g, vs = [.slice (some ⟨g, 0, none⟩) 2 2] ∧ W.heap[g]? = some (.cells #[i64 1, i64 3] 3 (0, 0))
  | 47 => vs = [.bool true]
  | 48 => vs = [.bool true]
  | 49 => vs = [.bool true]
  | 50 => vs = [i64 0]
  | 51 => vs = [.bool true]
  | 52 => vs = [.bool true]
  | 53 => vs = [.bool true]
  | 54 => vs = [l2]
  | 55 => ∃ g, vs = [.slice (some ⟨g, 0, none⟩) 2 2] ∧ W.heap[g]? = some (.cells #[i64 1, i64 3] 3 (0, 0))
  | 56 => vs = [.bool true]
  | 57 => vs = [.bool true]
  | 58 => vs = [.bool true]
  | 59 => vs = [i64 0]
  | 60 => vs = [.bool true]
  | 61 => vs = [.bool true]
  | 62 => vs = [.bool true]
  | 63 => vs = [.bool false]
  | 64 => vs = [.bool true]
  | 65 => vs = [.bool true]
  | 66 => vs = [.bool true]
  | 67 => vs = [i64 0]
  | 68 => vs = [.bool true]
  | 69 => vs = [.bool true]
  | 70 => vs = [.bool true]
  | 71 => vs = [.slice wa 0 wc]
  | 72 => vs = [i64 0]
  | 73 => vs = [.bool true]
  | 74 => vs = [.bool true]
  | 75 => vs = [.bool true]
  | 76 => vs = [i64 4]
  | 77 => vs = [.bool true]
  | 78 => vs = [.bool true]
  | 79 => vs = [.bool true]
  | 80 => vs = [.bool true]
  | 81 => vs = [.bool true]
  | 82 => vs = [.bool true]
  | 83 => vs = [.bool true]
  | 84 => vs = [.bool true]
  | _ => True
set_option maxRecDepth 100000 in
set_option maxHeartbeats 16000000 in
theorem LKnown_v {w : World} (hG : GA w) : Calls Tryd.prog 14 #[] w (MoorPost w) := by
  go_enter Tryd.func14, Tryd.ntmps14
  go_wp2_with fail
  rename_i K hK
  suffices key : ∀ act W, Kn1Post w act W → K act W by
    refine rg_region rdKn1 pureKn1 (gKn1 w) BR (by kernel_rfl) (by kernel_rfl) (fun n => BR.drawn _ n) BR.refl (fun _ _ _ => BR.trans) ?_ ?_ ?_
    · intro i hi vs wA wB hG hR
      match i, hi, hG with
      | 0, _, hG => exact hG
      | 1, _, hG => obtain ⟨t, h1, h2⟩ := hG; exact ⟨t, h1, h2.keep (Below.block hR)⟩
      | 2, _, hG => obtain ⟨t, h1, h2⟩ := hG; exact ⟨t, h1, h2.keep (Below.block hR)⟩
      | 3, _, hG => obtain ⟨t, h1, h2⟩ := hG; exact ⟨t, h1, h2.keep (Below.block hR)⟩
      | 4, _, hG => obtain ⟨t, h1, h2⟩ := hG; exact ⟨t, h1, h2.keep (Below.block hR)⟩
      | 5, _, hG => obtain ⟨t, h1, h2⟩ := hG; exact ⟨t, h1, h2.keep (Below.block hR)⟩
      | 6, _, hG => obtain ⟨t, h1, h2⟩ := hG; exact ⟨t, h1, h2.keep (Below.block hR)⟩
      | 7, _, hG => obtain ⟨t, h1, h2⟩ := hG; exact ⟨t, h1, h2.keep (Below.block hR)⟩
      | 8, _, hG => obtain ⟨t, h1, h2⟩ := hG; exact ⟨t, h1, h2.keep (Below.block hR)⟩
      | 9, _, hG => obtain ⟨t, h1, h2⟩ := hG; exact ⟨t, h1, h2.keep (Below.block hR)⟩
      | 10, _, hG => obtain ⟨t, h1, h2⟩ := hG; exact ⟨t, h1, h2.keep (Below.block hR)⟩
      | 11, _, hG => exact hG
      | 12, _, hG => obtain ⟨g, h1, h2⟩ := hG; exact ⟨g, h1, (hR.block _ (Array.getElem?_eq_some_iff.1 h2).1).trans h2⟩
      | 13, _, hG => obtain ⟨t, s, h1, h2, h3⟩ := hG; exact ⟨t, s, h1, h2.keep (Below.block hR), (hR.block _ (Array.getElem?_eq_some_iff.1 h3).1).trans h3⟩
      | 14, _, hG => exact hG
      | 15, _, hG => obtain ⟨g, h1, h2⟩ := hG; exact ⟨g, h1, (hR.block _ (Array.getElem?_eq_some_iff.1 h2).1).trans h2⟩
      | 16, _, hG => obtain ⟨t, s, h1, h2, h3⟩ := hG; exact ⟨t, s, h1, h2.keep (Below.block hR), (hR.block _ (Array.getElem?_eq_some_iff.1 h3).1).trans h3⟩
      | 17, _, hG => exact hG
      | 18, _, hG => obtain ⟨g, h1, h2⟩ := hG; exact ⟨g, h1, (hR.block _ (Array.getElem?_eq_some_iff.1 h2).1).trans h2⟩
      | 19, _, hG => obtain ⟨t, s, h1, h2, h3⟩ := hG; exact ⟨t, s, h1, h2.keep (Below.block hR), (hR.block _ (Array.getElem?_eq_some_iff.1 h3).1).trans h3⟩
      | 20, _, hG => obtain ⟨g, h1, h2⟩ := hG; exact ⟨g, h1, (hR.block _ (Array.getElem?_eq_some_iff.1 h2).1).trans h2⟩
      | 21, _, hG => obtain ⟨t, s, h1, h2, h3⟩ := hG; exact ⟨t, s, h1, h2.keep (Below.block hR), (hR.block _ (Array.getElem?_eq_some_iff.1 h3).1).trans h3⟩
      | 22, _, hG => obtain ⟨g, t1, t2, t3, t4, t5, t6, t7, t8, t9, t10, t11, t12, t13, t14, s11, s12, s13, s14, h1, h2⟩ := hG; exact ⟨g, t1, t2, t3, t4, t5, t6, t7, t8, t9, t10, t11, t12, t13, t14, s11, s12, s13, s14, h1, h2.keep (Below.block hR)⟩
      | 23, _, hG => obtain ⟨g, t1, t2, t3, t4, t5, t6, t7, t8, t9, t10, t11, t12, t13, t14, s11, s12, s13, s14, h1, h2⟩ := hG; exact ⟨g, t1, t2, t3, t4, t5, t6, t7, t8, t9, t10, t11, t12, t13, t14, s11, s12, s13, s14, h1, h2.keep (Below.block hR)⟩
      | _ + 24, _, _ => trivial
    · intro i op ho act wA hR hF hD
      have sz : act.tmps.size = 496 := hF.size
      match i, ho, hD with
      | 0, ho, hD =>
        cases ho
        refine rgw_val (wanted_none rfl) (.agg zero30) (by simp [go_sem]) (BR.refl _) ?_
        exact congrArg (fun v => [v]) (slotOf_same act 52 _ (by omega))
      | 1, ho, hD =>
        cases ho
        refine rgw_call (wanted_none rfl) 51 #[] (by simp [go_sem]) rfl ?_
        refine (own_f wA).mono ?_
        rintro e wB ⟨t, rfl, hb, hlo, h2⟩
        exact ⟨_, rfl, hb, t, congrArg (fun v => [v]) (slotOf_same act 53 _ (by omega)), Nat.le_trans (Below.size hR) hlo, h2⟩
      | 2, ho, hD =>
        cases ho
        refine rgw_call (wanted_none rfl) 51 #[] (by simp [go_sem]) rfl ?_
        refine (own_f wA).mono ?_
        rintro e wB ⟨t, rfl, hb, hlo, h2⟩
        exact ⟨_, rfl, hb, t, congrArg (fun v => [v]) (slotOf_same act 54 _ (by omega)), Nat.le_trans (Below.size hR) hlo, h2⟩
      | 3, ho, hD =>
        cases ho
        refine rgw_call (wanted_none rfl) 51 #[] (by simp [go_sem]) rfl ?_
        refine (own_f wA).mono ?_
        rintro e wB ⟨t, rfl, hb, hlo, h2⟩
        exact ⟨_, rfl, hb, t, congrArg (fun v => [v]) (slotOf_same act 55 _ (by omega)), Nat.le_trans (Below.size hR) hlo, h2⟩
      | 4, ho, hD =>
        cases ho
        refine rgw_call (wanted_none rfl) 51 #[] (by simp [go_sem]) rfl ?_
        refine (own_f wA).mono ?_
        rintro e wB ⟨t, rfl, hb, hlo, h2⟩
        exact ⟨_, rfl, hb, t, congrArg (fun v => [v]) (slotOf_same act 56 _ (by omega)), Nat.le_trans (Below.size hR) hlo, h2⟩
      | 5, ho, hD =>
        cases ho
        refine rgw_call (wanted_none rfl) 51 #[] (by simp [go_sem]) rfl ?_
        refine (own_f wA).mono ?_
        rintro e wB ⟨t, rfl, hb, hlo, h2⟩
        exact ⟨_, rfl, hb, t, congrArg (fun v => [v]) (slotOf_same act 57 _ (by omega)), Nat.le_trans (Below.size hR) hlo, h2⟩
      | 6, ho, hD =>
        cases ho
        refine rgw_call (wanted_none rfl) 51 #[] (by simp [go_sem]) rfl ?_
        refine (own_f wA).mono ?_
        rintro e wB ⟨t, rfl, hb, hlo, h2⟩
        exact ⟨_, rfl, hb, t, congrArg (fun v => [v]) (slotOf_same act 58 _ (by omega)), Nat.le_trans (Below.size hR) hlo, h2⟩
      | 7, ho, hD =>
        cases ho
        refine rgw_call (wanted_none rfl) 51 #[] (by simp [go_sem]) rfl ?_
        refine (own_f wA).mono ?_
        rintro e wB ⟨t, rfl, hb, hlo, h2⟩
        exact ⟨_, rfl, hb, t, congrArg (fun v => [v]) (slotOf_same act 59 _ (by omega)), Nat.le_trans (Below.size hR) hlo, h2⟩
      | 8, ho, hD =>
        cases ho
        refine rgw_call (wanted_none rfl) 51 #[] (by simp [go_sem]) rfl ?_
        refine (own_f wA).mono ?_
        rintro e wB ⟨t, rfl, hb, hlo, h2⟩
        exact ⟨_, rfl, hb, t, congrArg (fun v => [v]) (slotOf_same act 60 _ (by omega)), Nat.le_trans (Below.size hR) hlo, h2⟩
      | 9, ho, hD =>
        cases ho
        refine rgw_call (wanted_none rfl) 51 #[] (by simp [go_sem]) rfl ?_
        refine (own_f wA).mono ?_
        rintro e wB ⟨t, rfl, hb, hlo, h2⟩
        exact ⟨_, rfl, hb, t, congrArg (fun v => [v]) (slotOf_same act 61 _ (by omega)), Nat.le_trans (Below.size hR) hlo, h2⟩
      | 10, ho, hD =>
        cases ho
        refine rgw_call (wanted_none rfl) 51 #[] (by simp [go_sem]) rfl ?_
        refine (own_f wA).mono ?_
        rintro e wB ⟨t, rfl, hb, hlo, h2⟩
        exact ⟨_, rfl, hb, t, congrArg (fun v => [v]) (slotOf_same act 62 _ (by omega)), Nat.le_trans (Below.size hR) hlo, h2⟩
      | 11, ho, hD =>
        cases ho
        refine rgw_val (wanted_none rfl) (.agg #[i64 4, i64 0, i64 0]) (by simp [go_sem]) (BR.refl _) ?_
        exact congrArg (fun v => [v]) (slotOf_same act 63 _ (by omega))
      | 12, ho, hD =>
        cases ho
        have e63 := slot_tmps (List.cons.inj (hD 11 (by decide))).1
        refine rgw_wp (wanted_none rfl) rfl ?_
        refine wp_of_run (v := .slice (some ⟨wA.heap.size, 0, none⟩) 1 1) (w' := wA.alloc (.cells #[i64 4, i64 0, i64 0] 70)) (by simp [go_sem, e63]) ?_
        exact ⟨_, rfl, (Below.refl _ _).alloc (Nat.le_refl _) _, _, congrArg (fun v => [v]) (slotOf_same act 64 _ (by omega)), heap_alloc_new _ _⟩
      | 13, ho, hD =>
        cases ho
        obtain ⟨g, dg, hg⟩ := hD 12 (by decide)
        have e64 := slot_tmps (List.cons.inj dg).1
        refine rgw_call (wanted_none rfl) 52 #[.slice (some ⟨g, 0, none⟩) 1 1] (by simp [go_sem, e64]) rfl ?_
        refine (book_f g 0 (some ⟨g, 0, none⟩) 1 [⟨4, 0, 0⟩] wA (sounds1 (x := ⟨4, 0, 0⟩) hg)).mono ?_
        rintro e wB ⟨t, rfl, hb, hlo, hT⟩
        exact ⟨_, rfl, hb, t, g, congrArg (fun v => [v]) (slotOf_same act 65 _ (by omega)), ⟨Nat.le_trans (Below.size hR) hlo, hT⟩, (hb.block _ (Array.getElem?_eq_some_iff.1 hg).1).trans hg⟩
      | 14, ho, hD =>
        cases ho
        refine rgw_val (wanted_none rfl) (.agg #[i64 0, i64 2, i64 0]) (by simp [go_sem]) (BR.refl _) ?_
        exact congrArg (fun v => [v]) (slotOf_same act 66 _ (by omega))
      | 15, ho, hD =>
        cases ho
        have e66 := slot_tmps (List.cons.inj (hD 14 (by decide))).1
        refine rgw_wp (wanted_none rfl) rfl ?_
        refine wp_of_run (v := .slice (some ⟨wA.heap.size, 0, none⟩) 1 1) (w' := wA.alloc (.cells #[i64 0, i64 2, i64 0] 70)) (by simp [go_sem, e66]) ?_
        exact ⟨_, rfl, (Below.refl _ _).alloc (Nat.le_refl _) _, _, congrArg (fun v => [v]) (slotOf_same act 67 _ (by omega)), heap_alloc_new _ _⟩
      | 16, ho, hD =>
        cases ho
        obtain ⟨g, dg, hg⟩ := hD 15 (by decide)
        have e67 := slot_tmps (List.cons.inj dg).1
        refine rgw_call (wanted_none rfl) 52 #[.slice (some ⟨g, 0, none⟩) 1 1] (by simp [go_sem, e67]) rfl ?_
        refine (book_f g 0 (some ⟨g, 0, none⟩) 1 [⟨0, 2, 0⟩] wA (sounds1 (x := ⟨0, 2, 0⟩) hg)).mono ?_
        rintro e wB ⟨t, rfl, hb, hlo, hT⟩
        exact ⟨_, rfl, hb, t, g, congrArg (fun v => [v]) (slotOf_same act 68 _ (by omega)), ⟨Nat.le_trans (Below.size hR) hlo, hT⟩, (hb.block _ (Array.getElem?_eq_some_iff.1 hg).1).trans hg⟩
      | 17, ho, hD =>
        cases ho
        refine rgw_val (wanted_none rfl) (.agg #[i64 0, i64 0, i64 121]) (by simp [go_sem]) (BR.refl _) ?_
        exact congrArg (fun v => [v]) (slotOf_same act 69 _ (by omega))
      | 18, ho, hD =>
        cases ho
        have e69 := slot_tmps (List.cons.inj (hD 17 (by decide))).1
        refine rgw_wp (wanted_none rfl) rfl ?_
        refine wp_of_run (v := .slice (some ⟨wA.heap.size, 0, none⟩) 1 1) (w' := wA.alloc (.cells #[i64 0, i64 0, i64 121] 70)) (by simp [go_sem, e69]) ?_
        exact ⟨_, rfl, (Below.refl _ _).alloc (Nat.le_refl _) _, _, congrArg (fun v => [v]) (slotOf_same act 70 _ (by omega)), heap_alloc_new _ _⟩
      | 19, ho, hD =>
        cases ho
        obtain ⟨g, dg, hg⟩ := hD 18 (by decide)
        have e70 := slot_tmps (List.cons.inj dg).1
        refine rgw_call (wanted_none rfl) 52 #[.slice (some ⟨g, 0, none⟩) 1 1] (by simp [go_sem, e70]) rfl ?_
        refine (book_f g 0 (some ⟨g, 0, none⟩) 1 [⟨0, 0, 121⟩] wA (sounds1 (x := ⟨0, 0, 121⟩) hg)).mono ?_
        rintro e wB ⟨t, rfl, hb, hlo, hT⟩
        exact ⟨_, rfl, hb, t, g, congrArg (fun v => [v]) (slotOf_same act 71 _ (by omega)), ⟨Nat.le_trans (Below.size hR) hlo, hT⟩, (hb.block _ (Array.getElem?_eq_some_iff.1 hg).1).trans hg⟩
      | 20, ho, hD =>
        cases ho
        refine rgw_wp (wanted_none rfl) rfl ?_
        refine wp_of_run (v := .slice (some ⟨wA.heap.size, 0, none⟩) 7 7) (w' := wA.alloc (.cells zeros21 70)) (by simp [go_sem, make7]) ?_
        exact ⟨_, rfl, (Below.refl _ _).alloc (Nat.le_refl _) _, _, congrArg (fun v => [v]) (slotOf_same act 72 _ (by omega)), heap_alloc_new _ _⟩
      | 21, ho, hD =>
        cases ho
        obtain ⟨g, dg, hg⟩ := hD 20 (by decide)
        have e72 := slot_tmps (List.cons.inj dg).1
        refine rgw_call (wanted_none rfl) 52 #[.slice (some ⟨g, 0, none⟩) 7 7] (by simp [go_sem, e72]) rfl ?_
        refine (book_f g 0 (some ⟨g, 0, none⟩) 7 [⟨0, 0, 0⟩, ⟨0, 0, 0⟩, ⟨0, 0, 0⟩, ⟨0, 0, 0⟩, ⟨0, 0, 0⟩, ⟨0, 0, 0⟩, ⟨0, 0, 0⟩] wA (sounds7 hg)).mono ?_
        rintro e wB ⟨t, rfl, hb, hlo, hT⟩
        exact ⟨_, rfl, hb, t, g, congrArg (fun v => [v]) (slotOf_same act 73 _ (by omega)), ⟨Nat.le_trans (Below.size hR) hlo, hT⟩, (hb.block _ (Array.getElem?_eq_some_iff.1 hg).1).trans hg⟩
      | 22, ho, hD =>
        cases ho
        have v52 : act.eval (.tmp 52) = .agg zero30 := (List.cons.inj (hD 0 (by decide))).1
        obtain ⟨t1, d1, hT1⟩ := hD 1 (by decide)
        have v53 : act.eval (.tmp 53) = .agg (ownC t1) := (List.cons.inj d1).1
        obtain ⟨t2, d2, hT2⟩ := hD 2 (by decide)
        have v54 : act.eval (.tmp 54) = .agg (ownC t2) := (List.cons.inj d2).1
        obtain ⟨t3, d3, hT3⟩ := hD 3 (by decide)
        have v55 : act.eval (.tmp 55) = .agg (ownC t3) := (List.cons.inj d3).1
        obtain ⟨t4, d4, hT4⟩ := hD 4 (by decide)
        have v56 : act.eval (.tmp 56) = .agg (ownC t4) := (List.cons.inj d4).1
        obtain ⟨t5, d5, hT5⟩ := hD 5 (by decide)
        have v57 : act.eval (.tmp 57) = .agg (ownC t5) := (List.cons.inj d5).1
        obtain ⟨t6, d6, hT6⟩ := hD 6 (by decide)
        have v58 : act.eval (.tmp 58) = .agg (ownC t6) := (List.cons.inj d6).1
        obtain ⟨t7, d7, hT7⟩ := hD 7 (by decide)
        have v59 : act.eval (.tmp 59) = .agg (ownC t7) := (List.cons.inj d7).1
        obtain ⟨t8, d8, hT8⟩ := hD 8 (by decide)
        have v60 : act.eval (.tmp 60) = .agg (ownC t8) := (List.cons.inj d8).1
        obtain ⟨t9, d9, hT9⟩ := hD 9 (by decide)
        have v61 : act.eval (.tmp 61) = .agg (ownC t9) := (List.cons.inj d9).1
        obtain ⟨t10, d10, hT10⟩ := hD 10 (by decide)
        have v62 : act.eval (.tmp 62) = .agg (ownC t10) := (List.cons.inj d10).1
        obtain ⟨t11, s11, d11, hT11, hS11⟩ := hD 13 (by decide)
        have v65 : act.eval (.tmp 65) = .agg (bkC [⟨4, 0, 0⟩] t11 s11 1) := (List.cons.inj d11).1
        obtain ⟨t12, s12, d12, hT12, hS12⟩ := hD 16 (by decide)
        have v68 : act.eval (.tmp 68) = .agg (bkC [⟨0, 2, 0⟩] t12 s12 1) := (List.cons.inj d12).1
        obtain ⟨t13, s13, d13, hT13, hS13⟩ := hD 19 (by decide)
        have v71 : act.eval (.tmp 71) = .agg (bkC [⟨0, 0, 121⟩] t13 s13 1) := (List.cons.inj d13).1
        obtain ⟨t14, s14, d14, hT14, hS14⟩ := hD 21 (by decide)
        have v73 : act.eval (.tmp 73) = .agg (bkC [⟨0, 0, 0⟩, ⟨0, 0, 0⟩, ⟨0, 0, 0⟩, ⟨0, 0, 0⟩, ⟨0, 0, 0⟩, ⟨0, 0, 0⟩, ⟨0, 0, 0⟩] t14 s14 7) := (List.cons.inj d14).1
        refine rgw_wp (wanted_none rfl) rfl ?_
        refine wp_rows _ (rows0 t1 t2 t3 t4 t5 t6 t7 t8 t9 t10 t11 t12 t13 t14 s11 s12 s13 s14) rfl (rows0_size t1 t2 t3 t4 t5 t6 t7 t8 t9 t10 t11 t12 t13 t14 s11 s12 s13 s14) rfl ?_ ?_
        · simp only [List.map_toArray, List.map_cons, List.map_nil, v52, v53, v54, v55, v56, v57, v58, v59, v60, v61, v62, v65, v68, v71, v73]
          rfl
        · exact ⟨_, rfl, (Below.refl _ _).alloc (Nat.le_refl _) _, wA.heap.size, t1, t2, t3, t4, t5, t6, t7, t8, t9, t10, t11, t12, t13, t14, s11, s12, s13, s14, congrArg (fun v => [v]) (slotOf_same act 74 _ (by omega)), KS.new (rows0_size t1 t2 t3 t4 t5 t6 t7 t8 t9 t10 t11 t12 t13 t14 s11 s12 s13 s14) (Below.size hR) (ts := [t1, t2, t3, t4, t5, t6, t7, t8, t9, t10, t11, t12, t13, t14]) (by simp only [List.forall_mem_cons]; exact ⟨hT1, hT2, hT3, hT4, hT5, hT6, hT7, hT8, hT9, hT10, hT11, hT12, hT13, hT14, fun _ h => by cases h⟩) hS11 hS12 hS13 hS14⟩
      | 23, ho, hD =>
        cases ho
        obtain ⟨g, t1, t2, t3, t4, t5, t6, t7, t8, t9, t10, t11, t12, t13, t14, s11, s12, s13, s14, dg, hK⟩ := hD 22 (by decide)
        have e74 := slot_tmps (List.cons.inj dg).1
        refine rgw_val (wanted_none rfl) (.slice (some ⟨g, 0, none⟩) 15 15) (by simp [go_sem, e74]) (BR.refl _) ?_
        exact ⟨g, t1, t2, t3, t4, t5, t6, t7, t8, t9, t10, t11, t12, t13, t14, s11, s12, s13, s14, congrArg (fun v => [v]) (slotOf_same act 1 _ (by omega)), hK⟩
      | _ + 24, ho, _ => cases ho
    · intro act wA hR hF hA
      obtain ⟨g, t1, t2, t3, t4, t5, t6, t7, t8, t9, t10, t11, t12, t13, t14, s11, s12, s13, s14, d1, hKS⟩ := hA 23 (by decide)
      exact key _ _ ⟨hF.size, hF.defers, Below.mono hR (Nat.le_refl _), g, t1, t2, t3, t4, t5, t6, t7, t8, t9, t10, t11, t12, t13, t14, s11, s12, s13, s14, (List.cons.inj d1).1, hKS⟩
  rintro act W ⟨hsz, hdf, hb, g, t1, t2, t3, t4, t5, t6, t7, t8, t9, t10, t11, t12, t13, t14, s11, s12, s13, s14, s1, hKS⟩
  refine hK _ _ ?_
  clear hK
  have hi1 : ∀ W, (Instr.indexAt 83 (.slice (some ⟨g, 0, none⟩) 15 15) (.int .i64 1)).run Tryd.prog W = .ok (.pointer (some ⟨g, 14, none⟩)) W := fun W => idx83 g 1 14 W (by decide) rfl
  have hi2 : ∀ W, (Instr.indexAt 83 (.slice (some ⟨g, 0, none⟩) 15 15) (.int .i64 2)).run Tryd.prog W = .ok (.pointer (some ⟨g, 28, none⟩)) W := fun W => idx83 g 2 28 W (by decide) rfl
  have hi3 : ∀ W, (Instr.indexAt 83 (.slice (some ⟨g, 0, none⟩) 15 15) (.int .i64 3)).run Tryd.prog W = .ok (.pointer (some ⟨g, 42, none⟩)) W := fun W => idx83 g 3 42 W (by decide) rfl
  have hi4 : ∀ W, (Instr.indexAt 83 (.slice (some ⟨g, 0, none⟩) 15 15) (.int .i64 4)).run Tryd.prog W = .ok (.pointer (some ⟨g, 56, none⟩)) W := fun W => idx83 g 4 56 W (by decide) rfl
  have hi5 : ∀ W, (Instr.indexAt 83 (.slice (some ⟨g, 0, none⟩) 15 15) (.int .i64 5)).run Tryd.prog W = .ok (.pointer (some ⟨g, 70, none⟩)) W := fun W => idx83 g 5 70 W (by decide) rfl
  have hi6 : ∀ W, (Instr.indexAt 83 (.slice (some ⟨g, 0, none⟩) 15 15) (.int .i64 6)).run Tryd.prog W = .ok (.pointer (some ⟨g, 84, none⟩)) W := fun W => idx83 g 6 84 W (by decide) rfl
  have hi7 : ∀ W, (Instr.indexAt 83 (.slice (some ⟨g, 0, none⟩) 15 15) (.int .i64 7)).run Tryd.prog W = .ok (.pointer (some ⟨g, 98, none⟩)) W := fun W => idx83 g 7 98 W (by decide) rfl
  have hi8 : ∀ W, (Instr.indexAt 83 (.slice (some ⟨g, 0, none⟩) 15 15) (.int .i64 8)).run Tryd.prog W = .ok (.pointer (some ⟨g, 112, none⟩)) W := fun W => idx83 g 8 112 W (by decide) rfl
  have hi9 : ∀ W, (Instr.indexAt 83 (.slice (some ⟨g, 0, none⟩) 15 15) (.int .i64 9)).run Tryd.prog W = .ok (.pointer (some ⟨g, 126, none⟩)) W := fun W => idx83 g 9 126 W (by decide) rfl
  have hi10 : ∀ W, (Instr.indexAt 83 (.slice (some ⟨g, 0, none⟩) 15 15) (.int .i64 10)).run Tryd.prog W = .ok (.pointer (some ⟨g, 140, none⟩)) W := fun W => idx83 g 10 140 W (by decide) rfl
  rw [act_eta act 496 hsz hdf]
  simp only [show List.range 496 = [0, 1, 2, 3, 4, 5, 6, 7, 8, 9, 10, 11, 12, 13, 14, 15, 16, 17, 18, 19, 20, 21, 22, 23, 24, 25, 26, 27, 28, 29, 30, 31, 32, 33, 34, 35, 36, 37, 38, 39, 40, 41, 42, 43, 44, 45, 46, 47, 48, 49, 50, 51, 52, 53, 54, 55, 56, 57, 58, 59, 60, 61, 62, 63, 64, 65, 66, 67, 68, 69, 70, 71, 72, 73, 74, 75, 76, 77, 78, 79, 80, 81, 82, 83, 84, 85, 86, 87, 88, 89, 90, 91, 92, 93, 94, 95, 96, 97, 98, 99, 100, 101, 102, 103, 104, 105, 106, 107, 108, 109, 110, 111, 112, 113, 114, 115, 116, 117, 118, 119, 120, 121, 122, 123, 124, 125, 126, 127, 128, 129, 130, 131, 132, 133, 134, 135, 136, 137, 138, 139, 140, 141, 142, 143, 144, 145, 146, 147, 148, 149, 150, 151, 152, 153, 154, 155, 156, 157, 158, 159, 160, 161, 162, 163, 164, 165, 166, 167, 168, 169, 170, 171, 172, 173, 174, 175, 176, 177, 178, 179, 180, 181, 182, 183, 184, 185, 186, 187, 188, 189, 190, 191, 192, 193, 194, 195, 196, 197, 198, 199, 200, 201, 202, 203, 204, 205, 206, 207, 208, 209, 210, 211, 212, 213, 214, 215, 216, 217, 218, 219, 220, 221, 222, 223, 224, 225, 226, 227, 228, 229, 230, 231, 232, 233, 234, 235, 236, 237, 238, 239, 240, 241, 242, 243, 244, 245, 246, 247, 248, 249, 250, 251, 252, 253, 254, 255, 256, 257, 258, 259, 260, 261, 262, 263, 264, 265, 266, 267, 268, 269, 270, 271, 272, 273, 274, 275, 276, 277, 278, 279, 280, 281, 282, 283, 284, 285, 286, 287, 288, 289, 290, 291, 292, 293, 294, 295, 296, 297, 298, 299, 300, 301, 302, 303, 304, 305, 306, 307, 308, 309, 310, 311, 312, 313, 314, 315, 316, 317, 318, 319, 320, 321, 322, 323, 324, 325, 326, 327, 328, 329, 330, 331, 332, 333, 334, 335, 336, 337, 338, 339, 340, 341, 342, 343, 344, 345, 346, 347, 348, 349, 350, 351, 352, 353, 354, 355, 356, 357, 358, 359, 360, 361, 362, 363, 364, 365, 366, 367, 368, 369, 370, 371, 372, 373, 374, 375, 376, 377, 378, 379, 380, 381, 382, 383, 384, 385, 386, 387, 388, 389, 390, 391, 392, 393, 394, 395, 396, 397, 398, 399, 400, 401, 402, 403, 404, 405, 406, 407, 408, 409, 410, 411, 412, 413, 414, 415, 416, 417, 418, 419, 420, 421, 422, 423, 424, 425, 426, 427, 428, 429, 430, 431, 432, 433, 434, 435, 436, 437, 438, 439, 440, 441, 442, 443, 444, 445, 446, 447, 448, 449, 450, 451, 452, 453, 454, 455, 456, 457, 458, 459, 460, 461, 462, 463, 464, 465, 466, 467, 468, 469, 470, 471, 472, 473, 474, 475, 476, 477, 478, 479, 480, 481, 482, 483, 484, 485, 486, 487, 488, 489, 490, 491, 492, 493, 494, 495] from rfl, List.map_cons, List.map_nil, s1]
  clear s1
  go_wp2_with fail
  refine rl_region 5 rdKn2 pureKn2 (gKn2 g t1) BR (by kernel_rfl) (by kernel_rfl) (by kernel_rfl) (by kernel_rfl) (by kernel_rfl) (by kernel_rfl) (fun n => BR.drawn _ n) BR.refl (fun _ _ _ => BR.trans) ?_ ?_ ?_
  · intro i _ hi vs wA wB hG hR
    match i, hi, hG with
    | 0, _, hG => exact hG
    | 1, _, hG => exact hG
    | 2, _, hG => exact hG
    | 3, _, hG => exact hG
    | 4, _, hG => exact hG
    | _ + 5, _, _ => trivial
  · intro i op hin ho act wA hR hF hD
    have sz : act.tmps.size = 496 := hF.size
    match i, hin, ho, hD with
    | 0, _, ho, hD =>
      cases ho
      have e1 := slot_tmps (show slotOf act 1 = .slice (some ⟨g, 0, none⟩) 15 15 from hF.slot 1 (by kernel_rfl))
      refine rgw_val (wanted_none rfl) (.slice (some ⟨g, 0, none⟩) 15 15) (by simp [go_sem, e1]) (BR.refl _) ?_
      exact congrArg (fun v => [v]) (slotOf_same act 75 _ (by omega))
    | 1, _, ho, hD =>
      cases ho
      have e75 := slot_tmps (List.cons.inj (hD 0 (by decide))).1
      refine rgw_val (wanted_none rfl) (.pointer (some ⟨g, 14, none⟩)) (by simp [go_sem, e75, hi1]) (BR.refl _) ?_
      exact congrArg (fun v => [v]) (slotOf_same act 76 _ (by omega))
    | 2, _, ho, hD =>
      cases ho
      have e76 := slot_tmps (List.cons.inj (hD 1 (by decide))).1
      refine rgw_val (wanted_none rfl) (.pointer (some ⟨g, 14, none⟩)) (by simp [go_sem, e76]) (BR.refl _) ?_
      exact congrArg (fun v => [v]) (slotOf_same act 77 _ (by omega))
    | 3, _, ho, hD =>
      cases ho
      have e77 := slot_tmps (List.cons.inj (hD 2 (by decide))).1
      have hKA := hKS.keep (Below.block hR)
      have hc : wA.cell? ⟨g, 14, none⟩ = some (.slice (some ⟨t1, 0, none⟩) 4 4) := hKA.at (r := ownC t1) 1 0 14 rfl (by decide) rfl rfl
      refine rgw_val (wanted_none rfl) (.slice (some ⟨t1, 0, none⟩) 4 4) (by simp [go_sem, e77, hc]) (BR.refl _) ?_
      exact congrArg (fun v => [v]) (slotOf_same act 78 _ (by omega))
    | 4, _, ho, hD =>
      cases ho
      refine rgw_call (wanted_none rfl) 48 #[i64 10, i64 15] (by simp [go_sem]) rfl ?_
      refine (range_any _ _ _).mono ?_
      rintro e wB ⟨rfl, hb⟩
      exact ⟨_, rfl, hb, congrArg (fun v => [v]) (slotOf_same act 79 _ (by omega))⟩
    | _ + 5, hin, _, _ => exact absurd hin (by omega)
  · intro act wA hR hF hA
    have f1 : slotOf act 1 = .slice (some ⟨g, 0, none⟩) 15 15 := hF.slot 1 (by kernel_rfl)
    have f75 : slotOf act 75 = .slice (some ⟨g, 0, none⟩) 15 15 := (List.cons.inj (hA 0 (by decide))).1
    have f76 : slotOf act 76 = .pointer (some ⟨g, 14, none⟩) := (List.cons.inj (hA 1 (by decide))).1
    have f77 : slotOf act 77 = .pointer (some ⟨g, 14, none⟩) := (List.cons.inj (hA 2 (by decide))).1
    have f78 : slotOf act 78 = .slice (some ⟨t1, 0, none⟩) 4 4 := (List.cons.inj (hA 3 (by decide))).1
    have f79 : slotOf act 79 = .agg #[i64 10, i64 15] := (List.cons.inj (hA 4 (by decide))).1
    rw [act_eta act 496 hF.size hF.defers]
    simp only [show List.range 496 = [0, 1, 2, 3, 4, 5, 6, 7, 8, 9, 10, 11, 12, 13, 14, 15, 16, 17, 18, 19, 20, 21, 22, 23, 24, 25, 26, 27, 28, 29, 30, 31, 32, 33, 34, 35, 36, 37, 38, 39, 40, 41, 42, 43, 44, 45, 46, 47, 48, 49, 50, 51, 52, 53, 54, 55, 56, 57, 58, 59, 60, 61, 62, 63, 64, 65, 66, 67, 68, 69, 70, 71, 72, 73, 74, 75, 76, 77, 78, 79, 80, 81, 82, 83, 84, 85, 86, 87, 88, 89, 90, 91, 92, 93, 94, 95, 96, 97, 98, 99, 100, 101, 102, 103, 104, 105, 106, 107, 108, 109, 110, 111, 112, 113, 114, 115, 116, 117, 118, 119, 120, 121, 122, 123, 124, 125, 126, 127, 128, 129, 130, 131, 132, 133, 134, 135, 136, 137, 138, 139, 140, 141, 142, 143, 144, 145, 146, 147, 148, 149, 150, 151, 152, 153, 154, 155, 156, 157, 158, 159, 160, 161, 162, 163, 164, 165, 166, 167, 168, 169, 170, 171, 172, 173, 174, 175, 176, 177, 178, 179, 180, 181, 182, 183, 184, 185, 186, 187, 188, 189, 190, 191, 192, 193, 194, 195, 196, 197, 198, 199, 200, 201, 202, 203, 204, 205, 206, 207, 208, 209, 210, 211, 212, 213, 214, 215, 216, 217, 218, 219, 220, 221, 222, 223, 224, 225, 226, 227, 228, 229, 230, 231, 232, 233, 234, 235, 236, 237, 238, 239, 240, 241, 242, 243, 244, 245, 246, 247, 248, 249, 250, 251, 252, 253, 254, 255, 256, 257, 258, 259, 260, 261, 262, 263, 264, 265, 266, 267, 268, 269, 270, 271, 272, 273, 274, 275, 276, 277, 278, 279, 280, 281, 282, 283, 284, 285, 286, 287, 288, 289, 290, 291, 292, 293, 294, 295, 296, 297, 298, 299, 300, 301, 302, 303, 304, 305, 306, 307, 308, 309, 310, 311, 312, 313, 314, 315, 316, 317, 318, 319, 320, 321, 322, 323, 324, 325, 326, 327, 328, 329, 330, 331, 332, 333, 334, 335, 336, 337, 338, 339, 340, 341, 342, 343, 344, 345, 346, 347, 348, 349, 350, 351, 352, 353, 354, 355, 356, 357, 358, 359, 360, 361, 362, 363, 364, 365, 366, 367, 368, 369, 370, 371, 372, 373, 374, 375, 376, 377, 378, 379, 380, 381, 382, 383, 384, 385, 386, 387, 388, 389, 390, 391, 392, 393, 394, 395, 396, 397, 398, 399, 400, 401, 402, 403, 404, 405, 406, 407, 408, 409, 410, 411, 412, 413, 414, 415, 416, 417, 418, 419, 420, 421, 422, 423, 424, 425, 426, 427, 428, 429, 430, 431, 432, 433, 434, 435, 436, 437, 438, 439, 440, 441, 442, 443, 444, 445, 446, 447, 448, 449, 450, 451, 452, 453, 454, 455, 456, 457, 458, 459, 460, 461, 462, 463, 464, 465, 466, 467, 468, 469, 470, 471, 472, 473, 474, 475, 476, 477, 478, 479, 480, 481, 482, 483, 484, 485, 486, 487, 488, 489, 490, 491, 492, 493, 494, 495] from rfl, List.map_cons, List.map_nil, f1, f75, f76, f77, f78, f79]
    clear hA hF f1 f75 f76 f77 f78 f79
    simp only [List.drop_succ_cons, List.drop_zero]
    have hKA := hKS.keep (Below.block hR)
    have hbA := hb.trans (Below.mono hR hb.size)
    clear hR hKS hb
    obtain ⟨lo, hi, hT⟩ := hKA.tt t1 (by simp)
    have hz := hKA.zt t1 (by simp)
    have hKB := hKA.tide (t := t1) (by simp) (lo := 10) (hi := 15) (by decide)
    have hbB := (hbA.setCell (p := ⟨t1, 0, none⟩) hz (i64 10)).setCell (p := ⟨t1, 1, none⟩) hz (i64 15)
    have hx0 : wA.cell? ⟨t1, 0, none⟩ = some (i64 lo) := cells_of hT 0
    have hx1 : wA.cell? ⟨t1, 1, none⟩ = some (i64 hi) := cells_of hT 1
    have hf := fun j => frozen_of hT j
    have hl := (Array.getElem?_eq_some_iff.1 hT).1
    have hix : ∀ W, (Instr.indexAt 22 (.slice (some ⟨t1, 0, none⟩) 4 4) (.int .i64 0)).run Tryd.prog W = .ok (.pointer (some ⟨t1, 0, none⟩)) W := fun W => idx22 (n := 4) (c := 4) (k := 0) W rfl (by decide)
    go_wp2_with fail
    obtain ⟨W2, hW⟩ : ∃ W2, (wA.setCell ⟨t1, 0, none⟩ (i64 10)).setCell ⟨t1, 1, none⟩ (i64 15) = W2 := ⟨_, rfl⟩
    rw [hW] at hKB hbB ⊢
    clear hW hx0 hx1 hf hl hix hT hz hKA hbA
    have hKS := hKB
    have hb := hbB
    clear hKB hbB
    refine rl_region 5 rdKn3 pureKn3 (gKn3 g t2) BR (by kernel_rfl) (by kernel_rfl) (by kernel_rfl) (by kernel_rfl) (by kernel_rfl) (by kernel_rfl) (fun n => BR.drawn _ n) BR.refl (fun _ _ _ => BR.trans) ?_ ?_ ?_
    · intro i _ hi vs wA wB hG hR
      match i, hi, hG with
      | 0, _, hG => exact hG
      | 1, _, hG => exact hG
      | 2, _, hG => exact hG
      | 3, _, hG => exact hG
      | 4, _, hG => exact hG
      | _ + 5, _, _ => trivial
    · intro i op hin ho act wA hR hF hD
      have sz : act.tmps.size = 496 := hF.size
      match i, hin, ho, hD with
      | 0, _, ho, hD =>
        cases ho
        have e1 := slot_tmps (show slotOf act 1 = .slice (some ⟨g, 0, none⟩) 15 15 from hF.slot 1 (by kernel_rfl))
        refine rgw_val (wanted_none rfl) (.slice (some ⟨g, 0, none⟩) 15 15) (by simp [go_sem, e1]) (BR.refl _) ?_
        exact congrArg (fun v => [v]) (slotOf_same act 81 _ (by omega))
      | 1, _, ho, hD =>
        cases ho
        have e81 := slot_tmps (List.cons.inj (hD 0 (by decide))).1
        refine rgw_val (wanted_none rfl) (.pointer (some ⟨g, 28, none⟩)) (by simp [go_sem, e81, hi2]) (BR.refl _) ?_
        exact congrArg (fun v => [v]) (slotOf_same act 82 _ (by omega))
      | 2, _, ho, hD =>
        cases ho
        have e82 := slot_tmps (List.cons.inj (hD 1 (by decide))).1
        refine rgw_val (wanted_none rfl) (.pointer (some ⟨g, 28, none⟩)) (by simp [go_sem, e82]) (BR.refl _) ?_
        exact congrArg (fun v => [v]) (slotOf_same act 83 _ (by omega))
      | 3, _, ho, hD =>
        cases ho
        have e83 := slot_tmps (List.cons.inj (hD 2 (by decide))).1
        have hKA := hKS.keep (Below.block hR)
        have hc : wA.cell? ⟨g, 28, none⟩ = some (.slice (some ⟨t2, 0, none⟩) 4 4) := hKA.at (r := ownC t2) 2 0 28 rfl (by decide) rfl rfl
        refine rgw_val (wanted_none rfl) (.slice (some ⟨t2, 0, none⟩) 4 4) (by simp [go_sem, e83, hc]) (BR.refl _) ?_
        exact congrArg (fun v => [v]) (slotOf_same act 84 _ (by omega))
      | 4, _, ho, hD =>
        cases ho
        refine rgw_call (wanted_none rfl) 37 #[i64 81] (by simp [go_sem]) rfl ?_
        refine (point_any _ _).mono ?_
        rintro e wB ⟨rfl, hb⟩
        exact ⟨_, rfl, hb, congrArg (fun v => [v]) (slotOf_same act 85 _ (by omega))⟩
      | _ + 5, hin, _, _ => exact absurd hin (by omega)
    · intro act wA hR hF hA
      have f1 : slotOf act 1 = .slice (some ⟨g, 0, none⟩) 15 15 := hF.slot 1 (by kernel_rfl)
      have f81 : slotOf act 81 = .slice (some ⟨g, 0, none⟩) 15 15 := (List.cons.inj (hA 0 (by decide))).1
      have f82 : slotOf act 82 = .pointer (some ⟨g, 28, none⟩) := (List.cons.inj (hA 1 (by decide))).1
      have f83 : slotOf act 83 = .pointer (some ⟨g, 28, none⟩) := (List.cons.inj (hA 2 (by decide))).1
      have f84 : slotOf act 84 = .slice (some ⟨t2, 0, none⟩) 4 4 := (List.cons.inj (hA 3 (by decide))).1
      have f85 : slotOf act 85 = .agg #[i64 81, i64 81] := (List.cons.inj (hA 4 (by decide))).1
      rw [act_eta act 496 hF.size hF.defers]
      simp only [show List.range 496 = [0, 1, 2, 3, 4, 5, 6, 7, 8, 9, 10, 11, 12, 13, 14, 15, 16, 17, 18, 19, 20, 21, 22, 23, 24, 25, 26, 27, 28, 29, 30, 31, 32, 33, 34, 35, 36, 37, 38, 39, 40, 41, 42, 43, 44, 45, 46, 47, 48, 49, 50, 51, 52, 53, 54, 55, 56, 57, 58, 59, 60, 61, 62, 63, 64, 65, 66, 67, 68, 69, 70, 71, 72, 73, 74, 75, 76, 77, 78, 79, 80, 81, 82, 83, 84, 85, 86, 87, 88, 89, 90, 91, 92, 93, 94, 95, 96, 97, 98, 99, 100, 101, 102, 103, 104, 105, 106, 107, 108, 109, 110, 111, 112, 113, 114, 115, 116, 117, 118, 119, 120, 121, 122, 123, 124, 125, 126, 127, 128, 129, 130, 131, 132, 133, 134, 135, 136, 137, 138, 139, 140, 141, 142, 143, 144, 145, 146, 147, 148, 149, 150, 151, 152, 153, 154, 155, 156, 157, 158, 159, 160, 161, 162, 163, 164, 165, 166, 167, 168, 169, 170, 171, 172, 173, 174, 175, 176, 177, 178, 179, 180, 181, 182, 183, 184, 185, 186, 187, 188, 189, 190, 191, 192, 193, 194, 195, 196, 197, 198, 199, 200, 201, 202, 203, 204, 205, 206, 207, 208, 209, 210, 211, 212, 213, 214, 215, 216, 217, 218, 219, 220, 221, 222, 223, 224, 225, 226, 227, 228, 229, 230, 231, 232, 233, 234, 235, 236, 237, 238, 239, 240, 241, 242, 243, 244, 245, 246, 247, 248, 249, 250, 251, 252, 253, 254, 255, 256, 257, 258, 259, 260, 261, 262, 263, 264, 265, 266, 267, 268, 269, 270, 271, 272, 273, 274, 275, 276, 277, 278, 279, 280, 281, 282, 283, 284, 285, 286, 287, 288, 289, 290, 291, 292, 293, 294, 295, 296, 297, 298, 299, 300, 301, 302, 303, 304, 305, 306, 307, 308, 309, 310, 311, 312, 313, 314, 315, 316, 317, 318, 319, 320, 321, 322, 323, 324, 325, 326, 327, 328, 329, 330, 331, 332, 333, 334, 335, 336, 337, 338, 339, 340, 341, 342, 343, 344, 345, 346, 347, 348, 349, 350, 351, 352, 353, 354, 355, 356, 357, 358, 359, 360, 361, 362, 363, 364, 365, 366, 367, 368, 369, 370, 371, 372, 373, 374, 375, 376, 377, 378, 379, 380, 381, 382, 383, 384, 385, 386, 387, 388, 389, 390, 391, 392, 393, 394, 395, 396, 397, 398, 399, 400, 401, 402, 403, 404, 405, 406, 407, 408, 409, 410, 411, 412, 413, 414, 415, 416, 417, 418, 419, 420, 421, 422, 423, 424, 425, 426, 427, 428, 429, 430, 431, 432, 433, 434, 435, 436, 437, 438, 439, 440, 441, 442, 443, 444, 445, 446, 447, 448, 449, 450, 451, 452, 453, 454, 455, 456, 457, 458, 459, 460, 461, 462, 463, 464, 465, 466, 467, 468, 469, 470, 471, 472, 473, 474, 475, 476, 477, 478, 479, 480, 481, 482, 483, 484, 485, 486, 487, 488, 489, 490, 491, 492, 493, 494, 495] from rfl, List.map_cons, List.map_nil, f1, f81, f82, f83, f84, f85]
      clear hA hF f1 f81 f82 f83 f84 f85
      simp only [List.drop_succ_cons, List.drop_zero]
      have hKA := hKS.keep (Below.block hR)
      have hbA := hb.trans (Below.mono hR hb.size)
      clear hR hKS hb
      obtain ⟨lo, hi, hT⟩ := hKA.tt t2 (by simp)
      have hz := hKA.zt t2 (by simp)
      have hKB := hKA.tide (t := t2) (by simp) (lo := 81) (hi := 81) (by decide)
      have hbB := (hbA.setCell (p := ⟨t2, 0, none⟩) hz (i64 81)).setCell (p := ⟨t2, 1, none⟩) hz (i64 81)
      have hx0 : wA.cell? ⟨t2, 0, none⟩ = some (i64 lo) := cells_of hT 0
      have hx1 : wA.cell? ⟨t2, 1, none⟩ = some (i64 hi) := cells_of hT 1
      have hf := fun j => frozen_of hT j
      have hl := (Array.getElem?_eq_some_iff.1 hT).1
      have hix : ∀ W, (Instr.indexAt 22 (.slice (some ⟨t2, 0, none⟩) 4 4) (.int .i64 0)).run Tryd.prog W = .ok (.pointer (some ⟨t2, 0, none⟩)) W := fun W => idx22 (n := 4) (c := 4) (k := 0) W rfl (by decide)
      go_wp2_with fail
      obtain ⟨W3, hW⟩ : ∃ W3, (wA.setCell ⟨t2, 0, none⟩ (i64 81)).setCell ⟨t2, 1, none⟩ (i64 81) = W3 := ⟨_, rfl⟩
      rw [hW] at hKB hbB ⊢
      clear hW hx0 hx1 hf hl hix hT hz hKA hbA
      have hKS := hKB
      have hb := hbB
      clear hKB hbB
      refine rl_region 5 rdKn4 pureKn4 (gKn4 g t3) BR (by kernel_rfl) (by kernel_rfl) (by kernel_rfl) (by kernel_rfl) (by kernel_rfl) (by kernel_rfl) (fun n => BR.drawn _ n) BR.refl (fun _ _ _ => BR.trans) ?_ ?_ ?_
      · intro i _ hi vs wA wB hG hR
        match i, hi, hG with
        | 0, _, hG => exact hG
        | 1, _, hG => exact hG
        | 2, _, hG => exact hG
        | 3, _, hG => exact hG
        | 4, _, hG => exact hG
        | _ + 5, _, _ => trivial
      · intro i op hin ho act wA hR hF hD
        have sz : act.tmps.size = 496 := hF.size
        match i, hin, ho, hD with
        | 0, _, ho, hD =>
          cases ho
          have e1 := slot_tmps (show slotOf act 1 = .slice (some ⟨g, 0, none⟩) 15 15 from hF.slot 1 (by kernel_rfl))
          refine rgw_val (wanted_none rfl) (.slice (some ⟨g, 0, none⟩) 15 15) (by simp [go_sem, e1]) (BR.refl _) ?_
          exact congrArg (fun v => [v]) (slotOf_same act 87 _ (by omega))
        | 1, _, ho, hD =>
          cases ho
          have e87 := slot_tmps (List.cons.inj (hD 0 (by decide))).1
          refine rgw_val (wanted_none rfl) (.pointer (some ⟨g, 42, none⟩)) (by simp [go_sem, e87, hi3]) (BR.refl _) ?_
          exact congrArg (fun v => [v]) (slotOf_same act 88 _ (by omega))
        | 2, _, ho, hD =>
          cases ho
          have e88 := slot_tmps (List.cons.inj (hD 1 (by decide))).1
          refine rgw_val (wanted_none rfl) (.pointer (some ⟨g, 42, none⟩)) (by simp [go_sem, e88]) (BR.refl _) ?_
          exact congrArg (fun v => [v]) (slotOf_same act 89 _ (by omega))
        | 3, _, ho, hD =>
          cases ho
          have e89 := slot_tmps (List.cons.inj (hD 2 (by decide))).1
          have hKA := hKS.keep (Below.block hR)
          have hc : wA.cell? ⟨g, 42, none⟩ = some (.slice (some ⟨t3, 0, none⟩) 4 4) := hKA.at (r := ownC t3) 3 0 42 rfl (by decide) rfl rfl
          refine rgw_val (wanted_none rfl) (.slice (some ⟨t3, 0, none⟩) 4 4) (by simp [go_sem, e89, hc]) (BR.refl _) ?_
          exact congrArg (fun v => [v]) (slotOf_same act 90 _ (by omega))
        | 4, _, ho, hD =>
          cases ho
          refine rgw_call (wanted_none rfl) 48 #[i64 12, i64 10] (by simp [go_sem]) rfl ?_
          refine (range_any _ _ _).mono ?_
          rintro e wB ⟨rfl, hb⟩
          exact ⟨_, rfl, hb, congrArg (fun v => [v]) (slotOf_same act 91 _ (by omega))⟩
        | _ + 5, hin, _, _ => exact absurd hin (by omega)
      · intro act wA hR hF hA
        have f1 : slotOf act 1 = .slice (some ⟨g, 0, none⟩) 15 15 := hF.slot 1 (by kernel_rfl)
        have f87 : slotOf act 87 = .slice (some ⟨g, 0, none⟩) 15 15 := (List.cons.inj (hA 0 (by decide))).1
        have f88 : slotOf act 88 = .pointer (some ⟨g, 42, none⟩) := (List.cons.inj (hA 1 (by decide))).1
        have f89 : slotOf act 89 = .pointer (some ⟨g, 42, none⟩) := (List.cons.inj (hA 2 (by decide))).1
        have f90 : slotOf act 90 = .slice (some ⟨t3, 0, none⟩) 4 4 := (List.cons.inj (hA 3 (by decide))).1
        have f91 : slotOf act 91 = .agg #[i64 12, i64 10] := (List.cons.inj (hA 4 (by decide))).1
        rw [act_eta act 496 hF.size hF.defers]
        simp only [show List.range 496 = [0, 1, 2, 3, 4, 5, 6, 7, 8, 9, 10, 11, 12, 13, 14, 15, 16, 17, 18, 19, 20, 21, 22, 23, 24, 25, 26, 27, 28, 29, 30, 31, 32, 33, 34, 35, 36, 37, 38, 39, 40, 41, 42, 43, 44, 45, 46, 47, 48, 49, 50, 51, 52, 53, 54, 55, 56, 57, 58, 59, 60, 61, 62, 63, 64, 65, 66, 67, 68, 69, 70, 71, 72, 73, 74, 75, 76, 77, 78, 79, 80, 81, 82, 83, 84, 85, 86, 87, 88, 89, 90, 91, 92, 93, 94, 95, 96, 97, 98, 99, 100, 101, 102, 103, 104, 105, 106, 107, 108, 109, 110, 111, 112, 113, 114, 115, 116, 117, 118, 119, 120, 121, 122, 123, 124, 125, 126, 127, 128, 129, 130, 131, 132, 133, 134, 135, 136, 137, 138, 139, 140, 141, 142, 143, 144, 145, 146, 147, 148, 149, 150, 151, 152, 153, 154, 155, 156, 157, 158, 159, 160, 161, 162, 163, 164, 165, 166, 167, 168, 169, 170, 171, 172, 173, 174, 175, 176, 177, 178, 179, 180, 181, 182, 183, 184, 185, 186, 187, 188, 189, 190, 191, 192, 193, 194, 195, 196, 197, 198, 199, 200, 201, 202, 203, 204, 205, 206, 207, 208, 209, 210, 211, 212, 213, 214, 215, 216, 217, 218, 219, 220, 221, 222, 223, 224, 225, 226, 227, 228, 229, 230, 231, 232, 233, 234, 235, 236, 237, 238, 239, 240, 241, 242, 243, 244, 245, 246, 247, 248, 249, 250, 251, 252, 253, 254, 255, 256, 257, 258, 259, 260, 261, 262, 263, 264, 265, 266, 267, 268, 269, 270, 271, 272, 273, 274, 275, 276, 277, 278, 279, 280, 281, 282, 283, 284, 285, 286, 287, 288, 289, 290, 291, 292, 293, 294, 295, 296, 297, 298, 299, 300, 301, 302, 303, 304, 305, 306, 307, 308, 309, 310, 311, 312, 313, 314, 315, 316, 317, 318, 319, 320, 321, 322, 323, 324, 325, 326, 327, 328, 329, 330, 331, 332, 333, 334, 335, 336, 337, 338, 339, 340, 341, 342, 343, 344, 345, 346, 347, 348, 349, 350, 351, 352, 353, 354, 355, 356, 357, 358, 359, 360, 361, 362, 363, 364, 365, 366, 367, 368, 369, 370, 371, 372, 373, 374, 375, 376, 377, 378, 379, 380, 381, 382, 383, 384, 385, 386, 387, 388, 389, 390, 391, 392, 393, 394, 395, 396, 397, 398, 399, 400, 401, 402, 403, 404, 405, 406, 407, 408, 409, 410, 411, 412, 413, 414, 415, 416, 417, 418, 419, 420, 421, 422, 423, 424, 425, 426, 427, 428, 429, 430, 431, 432, 433, 434, 435, 436, 437, 438, 439, 440, 441, 442, 443, 444, 445, 446, 447, 448, 449, 450, 451, 452, 453, 454, 455, 456, 457, 458, 459, 460, 461, 462, 463, 464, 465, 466, 467, 468, 469, 470, 471, 472, 473, 474, 475, 476, 477, 478, 479, 480, 481, 482, 483, 484, 485, 486, 487, 488, 489, 490, 491, 492, 493, 494, 495] from rfl, List.map_cons, List.map_nil, f1, f87, f88, f89, f90, f91]
        clear hA hF f1 f87 f88 f89 f90 f91
        simp only [List.drop_succ_cons, List.drop_zero]
        have hKA := hKS.keep (Below.block hR)
        have hbA := hb.trans (Below.mono hR hb.size)
        clear hR hKS hb
        obtain ⟨lo, hi, hT⟩ := hKA.tt t3 (by simp)
        have hz := hKA.zt t3 (by simp)
        have hKB := hKA.tide (t := t3) (by simp) (lo := 12) (hi := 10) (by decide)
        have hbB := (hbA.setCell (p := ⟨t3, 0, none⟩) hz (i64 12)).setCell (p := ⟨t3, 1, none⟩) hz (i64 10)
        have hx0 : wA.cell? ⟨t3, 0, none⟩ = some (i64 lo) := cells_of hT 0
        have hx1 : wA.cell? ⟨t3, 1, none⟩ = some (i64 hi) := cells_of hT 1
        have hf := fun j => frozen_of hT j
        have hl := (Array.getElem?_eq_some_iff.1 hT).1
        have hix : ∀ W, (Instr.indexAt 22 (.slice (some ⟨t3, 0, none⟩) 4 4) (.int .i64 0)).run Tryd.prog W = .ok (.pointer (some ⟨t3, 0, none⟩)) W := fun W => idx22 (n := 4) (c := 4) (k := 0) W rfl (by decide)
        go_wp2_with fail
        obtain ⟨W4, hW⟩ : ∃ W4, (wA.setCell ⟨t3, 0, none⟩ (i64 12)).setCell ⟨t3, 1, none⟩ (i64 10) = W4 := ⟨_, rfl⟩
        rw [hW] at hKB hbB ⊢
        clear hW hx0 hx1 hf hl hix hT hz hKA hbA
        have hKS := hKB
        have hb := hbB
        clear hKB hbB
        refine rl_region 6 rdKn5 pureKn5 (gKn5 g) BR (by kernel_rfl) (by kernel_rfl) (by kernel_rfl) (by kernel_rfl) (by kernel_rfl) (by kernel_rfl) (fun n => BR.drawn _ n) BR.refl (fun _ _ _ => BR.trans) ?_ ?_ ?_
        · intro i _ hi vs wA wB hG hR
          match i, hi, hG with
          | 0, _, hG => exact hG
          | 1, _, hG => exact hG
          | 2, _, hG => exact hG
          | 3, _, hG => exact hG
          | 4, _, hG => exact hG
          | 5, _, hG => exact hG
          | _ + 6, _, _ => trivial
        · intro i op hin ho act wA hR hF hD
          have sz : act.tmps.size = 496 := hF.size
          match i, hin, ho, hD with
          | 0, _, ho, hD =>
            cases ho
            have e1 := slot_tmps (show slotOf act 1 = .slice (some ⟨g, 0, none⟩) 15 15 from hF.slot 1 (by kernel_rfl))
            refine rgw_val (wanted_none rfl) (.slice (some ⟨g, 0, none⟩) 15 15) (by simp [go_sem, e1]) (BR.refl _) ?_
            exact congrArg (fun v => [v]) (slotOf_same act 93 _ (by omega))
          | 1, _, ho, hD =>
            cases ho
            refine rgw_call (wanted_none rfl) 37 #[i64 (-41)] (by simp [go_sem]) rfl ?_
            refine (point_any _ _).mono ?_
            rintro e wB ⟨rfl, hb⟩
            exact ⟨_, rfl, hb, congrArg (fun v => [v]) (slotOf_same act 94 _ (by omega))⟩
          | 2, _, ho, hD =>
            cases ho
            have e93 := slot_tmps (List.cons.inj (hD 0 (by decide))).1
            refine rgw_val (wanted_none rfl) (.pointer (some ⟨g, 56, none⟩)) (by simp [go_sem, e93, hi4]) (BR.refl _) ?_
            exact congrArg (fun v => [v]) (slotOf_same act 95 _ (by omega))
          | 3, _, ho, hD =>
            cases ho
            have e95 := slot_tmps (List.cons.inj (hD 2 (by decide))).1
            refine rgw_val (wanted_none rfl) (.pointer (some ⟨g, 57, none⟩)) (by simp [go_sem, e95]) (BR.refl _) ?_
            exact congrArg (fun v => [v]) (slotOf_same act 96 _ (by omega))
          | 4, _, ho, hD =>
            cases ho
            have e96 := slot_tmps (List.cons.inj (hD 3 (by decide))).1
            refine rgw_val (wanted_none rfl) (.pointer (some ⟨g, 61, none⟩)) (by simp [go_sem, e96]) (BR.refl _) ?_
            exact congrArg (fun v => [v]) (slotOf_same act 97 _ (by omega))
          | 5, _, ho, hD =>
            cases ho
            have e97 := slot_tmps (List.cons.inj (hD 4 (by decide))).1
            refine rgw_val (wanted_none rfl) (.pointer (some ⟨g, 61, none⟩)) (by simp [go_sem, e97]) (BR.refl _) ?_
            exact congrArg (fun v => [v]) (slotOf_same act 98 _ (by omega))
          | _ + 6, hin, _, _ => exact absurd hin (by omega)
        · intro act wA hR hF hA
          have f1 : slotOf act 1 = .slice (some ⟨g, 0, none⟩) 15 15 := hF.slot 1 (by kernel_rfl)
          have f93 : slotOf act 93 = .slice (some ⟨g, 0, none⟩) 15 15 := (List.cons.inj (hA 0 (by decide))).1
          have f94 : slotOf act 94 = .agg #[i64 (-41), i64 (-41)] := (List.cons.inj (hA 1 (by decide))).1
          have f95 : slotOf act 95 = .pointer (some ⟨g, 56, none⟩) := (List.cons.inj (hA 2 (by decide))).1
          have f96 : slotOf act 96 = .pointer (some ⟨g, 57, none⟩) := (List.cons.inj (hA 3 (by decide))).1
          have f97 : slotOf act 97 = .pointer (some ⟨g, 61, none⟩) := (List.cons.inj (hA 4 (by decide))).1
          have f98 : slotOf act 98 = .pointer (some ⟨g, 61, none⟩) := (List.cons.inj (hA 5 (by decide))).1
          rw [act_eta act 496 hF.size hF.defers]
          simp only [show List.range 496 = [0, 1, 2, 3, 4, 5, 6, 7, 8, 9, 10, 11, 12, 13, 14, 15, 16, 17, 18, 19, 20, 21, 22, 23, 24, 25, 26, 27, 28, 29, 30, 31, 32, 33, 34, 35, 36, 37, 38, 39, 40, 41, 42, 43, 44, 45, 46, 47, 48, 49, 50, 51, 52, 53, 54, 55, 56, 57, 58, 59, 60, 61, 62, 63, 64, 65, 66, 67, 68, 69, 70, 71, 72, 73, 74, 75, 76, 77, 78, 79, 80, 81, 82, 83, 84, 85, 86, 87, 88, 89, 90, 91, 92, 93, 94, 95, 96, 97, 98, 99, 100, 101, 102, 103, 104, 105, 106, 107, 108, 109, 110, 111, 112, 113, 114, 115, 116, 117, 118, 119, 120, 121, 122, 123, 124, 125, 126, 127, 128, 129, 130, 131, 132, 133, 134, 135, 136, 137, 138, 139, 140, 141, 142, 143, 144, 145, 146, 147, 148, 149, 150, 151, 152, 153, 154, 155, 156, 157, 158, 159, 160, 161, 162, 163, 164, 165, 166, 167, 168, 169, 170, 171, 172, 173, 174, 175, 176, 177, 178, 179, 180, 181, 182, 183, 184, 185, 186, 187, 188, 189, 190, 191, 192, 193, 194, 195, 196, 197, 198, 199, 200, 201, 202, 203, 204, 205, 206, 207, 208, 209, 210, 211, 212, 213, 214, 215, 216, 217, 218, 219, 220, 221, 222, 223, 224, 225, 226, 227, 228, 229, 230, 231, 232, 233, 234, 235, 236, 237, 238, 239, 240, 241, 242, 243, 244, 245, 246, 247, 248, 249, 250, 251, 252, 253, 254, 255, 256, 257, 258, 259, 260, 261, 262, 263, 264, 265, 266, 267, 268, 269, 270, 271, 272, 273, 274, 275, 276, 277, 278, 279, 280, 281, 282, 283, 284, 285, 286, 287, 288, 289, 290, 291, 292, 293, 294, 295, 296, 297, 298, 299, 300, 301, 302, 303, 304, 305, 306, 307, 308, 309, 310, 311, 312, 313, 314, 315, 316, 317, 318, 319, 320, 321, 322, 323, 324, 325, 326, 327, 328, 329, 330, 331, 332, 333, 334, 335, 336, 337, 338, 339, 340, 341, 342, 343, 344, 345, 346, 347, 348, 349, 350, 351, 352, 353, 354, 355, 356, 357, 358, 359, 360, 361, 362, 363, 364, 365, 366, 367, 368, 369, 370, 371, 372, 373, 374, 375, 376, 377, 378, 379, 380, 381, 382, 383, 384, 385, 386, 387, 388, 389, 390, 391, 392, 393, 394, 395, 396, 397, 398, 399, 400, 401, 402, 403, 404, 405, 406, 407, 408, 409, 410, 411, 412, 413, 414, 415, 416, 417, 418, 419, 420, 421, 422, 423, 424, 425, 426, 427, 428, 429, 430, 431, 432, 433, 434, 435, 436, 437, 438, 439, 440, 441, 442, 443, 444, 445, 446, 447, 448, 449, 450, 451, 452, 453, 454, 455, 456, 457, 458, 459, 460, 461, 462, 463, 464, 465, 466, 467, 468, 469, 470, 471, 472, 473, 474, 475, 476, 477, 478, 479, 480, 481, 482, 483, 484, 485, 486, 487, 488, 489, 490, 491, 492, 493, 494, 495] from rfl, List.map_cons, List.map_nil, f1, f93, f94, f95, f96, f97, f98]
          clear hA hF f1 f93 f94 f95 f96 f97 f98
          simp only [List.drop_succ_cons, List.drop_zero]
          have hKA := hKS.keep (Below.block hR)
          have hbA := hb.trans (Below.mono hR hb.size)
          clear hR hKS hb
          have hcg := fun j => frozen_of hKA.hg j
          have hgl := (Array.getElem?_eq_some_iff.1 hKA.hg).1
          have hc61 : wA.cell? ⟨g, 61, none⟩ = some (i64 4) := hKA.at (r := ownC t4) 4 5 61 rfl (by decide) rfl rfl
          have hc62 : wA.cell? ⟨g, 62, none⟩ = some (i64 5) := hKA.at (r := ownC t4) 4 6 62 rfl (by decide) rfl rfl
          have hc73 : wA.cell? ⟨g, 73, none⟩ = some (i64 10) := hKA.at (r := ownC t5) 5 3 73 rfl (by decide) rfl rfl
          have hc88 : wA.cell? ⟨g, 88, none⟩ = some (i64 19) := hKA.at (r := ownC t6) 6 4 88 rfl (by decide) rfl rfl
          have hK1 := hKA.cell 4 5 61 (i64 (-41)) rfl (by decide) rfl
          have hK2 := hK1.cell 4 6 62 (i64 (-41)) rfl (by decide) rfl
          have hK3 := hK2.cell 5 3 73 (i64 20) rfl (by decide) rfl
          have hK4 := hK3.cell 6 4 88 (i64 81) rfl (by decide) rfl
          have hbB := (((hbA.setCell (p := ⟨g, 61, none⟩) hKA.zg (i64 (-41))).setCell (p := ⟨g, 62, none⟩) hKA.zg (i64 (-41))).setCell (p := ⟨g, 73, none⟩) hKA.zg (i64 20)).setCell (p := ⟨g, 88, none⟩) hKA.zg (i64 81)
          clear hK1 hK2 hK3 hKA hbA
          go_wp2_with fail
          refine (range_any _ _ _).mono ?_
          rintro e w8 ⟨rfl, hb8⟩
          have hK5 := hK4.keep hb8.block
          have hb5 := hbB.trans (hb8.mono hbB.size)
          clear hb8 hK4 hbB hcg hgl hc61 hc62 hc73 hc88
          have hcg := fun j => frozen_of hK5.hg j
          have hgl := (Array.getElem?_eq_some_iff.1 hK5.hg).1
          have hc107 : w8.cell? ⟨g, 107, none⟩ = some (i64 5) := hK5.at (r := ownC t7) 7 9 107 rfl (by decide) rfl rfl
          have hc108 : w8.cell? ⟨g, 108, none⟩ = some (i64 6) := hK5.at (r := ownC t7) 7 10 108 rfl (by decide) rfl rfl
          have hc123 : w8.cell? ⟨g, 123, none⟩ = some (i64 10) := hK5.at (r := ownC t8) 8 11 123 rfl (by decide) rfl rfl
          have hc138 : w8.cell? ⟨g, 138, none⟩ = some (i64 1) := hK5.at (r := ownC t9) 9 12 138 rfl (by decide) rfl rfl
          have hc140 : w8.cell? ⟨g, 140, none⟩ = some (.slice (some ⟨t10, 0, none⟩) 4 4) := hK5.at (r := ownC t10) 10 0 140 rfl (by decide) rfl rfl
          have hm25 := make25
          go_wp2_with fail
          have hK6 := hK5.cell 7 9 107 (i64 5) rfl (by decide) rfl
          have hK7 := hK6.cell 7 10 108 (i64 10) rfl (by decide) rfl
          have hK8 := hK7.cell 8 11 123 (i64 0) rfl (by decide) rfl
          have hK9 := hK8.cell 9 12 138 (i64 11) rfl (by decide) rfl
          have hK10 := hK9.cell 10 0 140 (.slice (some ⟨w8.heap.size, 0, none⟩) 25 25) rfl (by decide) rfl
          have hK11 := hK10.keep (W' := ((((((w8.setCell ⟨g, 107, none⟩ (i64 5)).setCell ⟨g, 108, none⟩ (i64 10)).setCell ⟨g, 123, none⟩ (i64 0)).setCell ⟨g, 138, none⟩ (i64 11)).setCell ⟨g, 140, none⟩ (.slice (some ⟨w8.heap.size, 0, none⟩) 25 25)).alloc (.cells zeros50 24))) (fun k hk => Below.heap_alloc _ _ _ hk)
          have hsz : (((((w8.setCell ⟨g, 107, none⟩ (i64 5)).setCell ⟨g, 108, none⟩ (i64 10)).setCell ⟨g, 123, none⟩ (i64 0)).setCell ⟨g, 138, none⟩ (i64 11)).setCell ⟨g, 140, none⟩ (.slice (some ⟨w8.heap.size, 0, none⟩) 25 25)).heap.size = w8.heap.size := by simp [World.setCell]
          have hu := heap_alloc_new (((((w8.setCell ⟨g, 107, none⟩ (i64 5)).setCell ⟨g, 108, none⟩ (i64 10)).setCell ⟨g, 123, none⟩ (i64 0)).setCell ⟨g, 138, none⟩ (i64 11)).setCell ⟨g, 140, none⟩ (.slice (some ⟨w8.heap.size, 0, none⟩) 25 25)) (.cells zeros50 24)
          rw [hsz] at hu
          have hb10 := ((((hb5.setCell (p := ⟨g, 107, none⟩) hK5.zg (i64 5)).setCell (p := ⟨g, 108, none⟩) hK5.zg (i64 10)).setCell (p := ⟨g, 123, none⟩) hK5.zg (i64 0)).setCell (p := ⟨g, 138, none⟩) hK5.zg (i64 11)).setCell (p := ⟨g, 140, none⟩) hK5.zg (.slice (some ⟨w8.heap.size, 0, none⟩) 25 25)
          have hb11 : Below w.heap.size w ((((((w8.setCell ⟨g, 107, none⟩ (i64 5)).setCell ⟨g, 108, none⟩ (i64 10)).setCell ⟨g, 123, none⟩ (i64 0)).setCell ⟨g, 138, none⟩ (i64 11)).setCell ⟨g, 140, none⟩ (.slice (some ⟨w8.heap.size, 0, none⟩) 25 25)).alloc (.cells zeros50 24)) := hb10.alloc hb10.size _
          have hkb := kb (u := w8.heap.size) (show KS w.heap.size ((((((w8.setCell ⟨g, 107, none⟩ (i64 5)).setCell ⟨g, 108, none⟩ (i64 10)).setCell ⟨g, 123, none⟩ (i64 0)).setCell ⟨g, 138, none⟩ (i64 11)).setCell ⟨g, 140, none⟩ (.slice (some ⟨w8.heap.size, 0, none⟩) 25 25)).alloc (.cells zeros50 24)) g (rowsF t1 t2 t3 t4 t5 t6 t7 t8 t9 t10 t11 t12 t13 t14 s11 s12 s13 s14 w8.heap.size) [t3, t2, t1] [t1, t2, t3, t4, t5, t6, t7, t8, t9, t10, t11, t12, t13, t14] s11 s12 s13 s14 from hK11) hu
          clear hK5 hK6 hK7 hK8 hK9 hK10 hK11 hsz hu hb10 hb5 hcg hgl hc107 hc108 hc123 hc138 hc140 hm25
          obtain ⟨W0, hW0⟩ : ∃ W0, ((((((w8.setCell ⟨g, 107, none⟩ (i64 5)).setCell ⟨g, 108, none⟩ (i64 10)).setCell ⟨g, 123, none⟩ (i64 0)).setCell ⟨g, 138, none⟩ (i64 11)).setCell ⟨g, 140, none⟩ (.slice (some ⟨w8.heap.size, 0, none⟩) 25 25)).alloc (.cells zeros50 24)) = W0 := ⟨_, rfl⟩
          have hW0' : ∀ x : Value, x = x := fun _ => rfl
          clear hW0'
          rw [hW0] at hb11 hkb
          refine Eq.mp (congrArg _ hW0.symm) ?_
          clear hW0
          have hG0 := hG.below hb11
          refine wp_loop (KnR g W0) (fun act _ => knM 15 2 act) ?_ ?_
          · exact ⟨0, Nat.zero_le _, rfl, rfl, rfl, rfl, Below.refl _ _⟩
          · rintro act W6 ⟨i, hi, hsz, hdf, s1, s2, hb6⟩
            rw [act_eta act 496 hsz hdf]
            simp only [show List.range 496 = [0, 1, 2, 3, 4, 5, 6, 7, 8, 9, 10, 11, 12, 13, 14, 15, 16, 17, 18, 19, 20, 21, 22, 23, 24, 25, 26, 27, 28, 29, 30, 31, 32, 33, 34, 35, 36, 37, 38, 39, 40, 41, 42, 43, 44, 45, 46, 47, 48, 49, 50, 51, 52, 53, 54, 55, 56, 57, 58, 59, 60, 61, 62, 63, 64, 65, 66, 67, 68, 69, 70, 71, 72, 73, 74, 75, 76, 77, 78, 79, 80, 81, 82, 83, 84, 85, 86, 87, 88, 89, 90, 91, 92, 93, 94, 95, 96, 97, 98, 99, 100, 101, 102, 103, 104, 105, 106, 107, 108, 109, 110, 111, 112, 113, 114, 115, 116, 117, 118, 119, 120, 121, 122, 123, 124, 125, 126, 127, 128, 129, 130, 131, 132, 133, 134, 135, 136, 137, 138, 139, 140, 141, 142, 143, 144, 145, 146, 147, 148, 149, 150, 151, 152, 153, 154, 155, 156, 157, 158, 159, 160, 161, 162, 163, 164, 165, 166, 167, 168, 169, 170, 171, 172, 173, 174, 175, 176, 177, 178, 179, 180, 181, 182, 183, 184, 185, 186, 187, 188, 189, 190, 191, 192, 193, 194, 195, 196, 197, 198, 199, 200, 201, 202, 203, 204, 205, 206, 207, 208, 209, 210, 211, 212, 213, 214, 215, 216, 217, 218, 219, 220, 221, 222, 223, 224, 225, 226, 227, 228, 229, 230, 231, 232, 233, 234, 235, 236, 237, 238, 239, 240, 241, 242, 243, 244, 245, 246, 247, 248, 249, 250, 251, 252, 253, 254, 255, 256, 257, 258, 259, 260, 261, 262, 263, 264, 265, 266, 267, 268, 269, 270, 271, 272, 273, 274, 275, 276, 277, 278, 279, 280, 281, 282, 283, 284, 285, 286, 287, 288, 289, 290, 291, 292, 293, 294, 295, 296, 297, 298, 299, 300, 301, 302, 303, 304, 305, 306, 307, 308, 309, 310, 311, 312, 313, 314, 315, 316, 317, 318, 319, 320, 321, 322, 323, 324, 325, 326, 327, 328, 329, 330, 331, 332, 333, 334, 335, 336, 337, 338, 339, 340, 341, 342, 343, 344, 345, 346, 347, 348, 349, 350, 351, 352, 353, 354, 355, 356, 357, 358, 359, 360, 361, 362, 363, 364, 365, 366, 367, 368, 369, 370, 371, 372, 373, 374, 375, 376, 377, 378, 379, 380, 381, 382, 383, 384, 385, 386, 387, 388, 389, 390, 391, 392, 393, 394, 395, 396, 397, 398, 399, 400, 401, 402, 403, 404, 405, 406, 407, 408, 409, 410, 411, 412, 413, 414, 415, 416, 417, 418, 419, 420, 421, 422, 423, 424, 425, 426, 427, 428, 429, 430, 431, 432, 433, 434, 435, 436, 437, 438, 439, 440, 441, 442, 443, 444, 445, 446, 447, 448, 449, 450, 451, 452, 453, 454, 455, 456, 457, 458, 459, 460, 461, 462, 463, 464, 465, 466, 467, 468, 469, 470, 471, 472, 473, 474, 475, 476, 477, 478, 479, 480, 481, 482, 483, 484, 485, 486, 487, 488, 489, 490, 491, 492, 493, 494, 495] from rfl, List.map_cons, List.map_nil, s1, s2]
            clear s1 s2
            have ha6 := hb11.trans (hb6.mono hb11.size)
            by_cases hlt : i < 15
            · have hlt' : (i : Int) < 15 := by omega
              obtain ⟨B, ta, tc, sa, sc, hR0⟩ := hkb i hlt
              have hv := Lib.hid hR0.2.2.2
              have hR6 := hR0.below hb6
              have hG6 := hG0.below hb6
              clear hR0
              have hi83 : ∀ W, (Instr.indexAt 83 (.slice (some ⟨g, 0, none⟩) 15 15) (.int .i64 (i : Int))).run Tryd.prog W = .ok (.pointer (some ⟨g, i * 14, none⟩)) W := fun W => idx83 g i (i * 14) W hlt rfl
              go_wp2_with (refine ld30m rfl _ rfl g i (bookCells B ta tc sa sc) rfl hR6.2.1 rfl ?_)
              refine (right_v hG6 hR6.2.2.1).mono ?_
              rintro e w10 ⟨rfl, hb⟩
              rw [right_bad hv.out]
              have hR10 := hR6.below hb
              have hG10 := hG6.below hb
              have hb10 := hb6.trans (hb.mono hb6.size)
              clear hb hR6 hG6 hb6
              go_wp2_with (refine ld30m rfl _ rfl g i (bookCells B ta tc sa sc) rfl hR10.2.1 rfl ?_)
              refine (height_v hG10 hR10.2.2.1 (-1)).mono ?_
              rintro e w11 ⟨rfl, hb⟩
              rw [height_bad hv.out]
              have hR11 := hR10.below hb
              have hG11 := hG10.below hb
              have hb11 := hb10.trans (hb.mono hb10.size)
              clear hb hR10 hG10 hb10
              have hb : Below w11.heap.size w11 (w11.alloc (.cells #[i64 0, i64 0] 24)) := (Below.refl _ _).alloc (Nat.le_refl _) _
              have hR12 := hR11.below hb
              have hG12 := hG11.below hb
              have hb12 := hb11.trans (hb.mono hb11.size)
              clear hb hR11 hG11 hb11
              go_wp2_with (refine ld30m rfl _ rfl g i (bookCells B ta tc sa sc) rfl hR12.2.1 rfl ?_)
              refine (floor_v hG12 hR12.2.2.1 (-1)).mono ?_
              rintro e w13 ⟨rfl, hb⟩
              rw [floor_bad hv.out]
              have hR13 := hR12.below hb
              have hG13 := hG12.below hb
              have hb13 := hb12.trans (hb.mono hb12.size)
              clear hb hR12 hG12 hb12
              have hb : Below w13.heap.size w13 (w13.alloc (.cells #[i64 0, i64 0] 24)) := (Below.refl _ _).alloc (Nat.le_refl _) _
              have hR14 := hR13.below hb
              have hG14 := hG13.below hb
              have hb14 := hb13.trans (hb.mono hb13.size)
              clear hb hR13 hG13 hb13
              go_wp2_with (refine ld30m rfl _ rfl g i (bookCells B ta tc sa sc) rfl hR14.2.1 rfl ?_)
              refine (lands_v hG14 hR14.2.2.1 (-1) (-1) (-1)).mono ?_
              rintro e w15 ⟨rfl, hb⟩
              rw [lands_bad hv.out]
              have hR15 := hR14.below hb
              have hG15 := hG14.below hb
              have hb15 := hb14.trans (hb.mono hb14.size)
              clear hb hR14 hG14 hb14
              go_wp2_with (refine ld30m rfl _ rfl g i (bookCells B ta tc sa sc) rfl hR15.2.1 rfl ?_)
              refine (most_v hG15 hR15.2.2.1 (-1) (-1)).mono ?_
              rintro e w16 ⟨rfl, hb⟩
              rw [most_bad hv.out]
              have hR16 := hR15.below hb
              have hG16 := hG15.below hb
              have hb16 := hb15.trans (hb.mono hb15.size)
              clear hb hR15 hG15 hb15
              go_wp2_with (refine ld30m rfl _ rfl g i (bookCells B ta tc sa sc) rfl hR16.2.1 rfl ?_)
              refine (first_v hG16 hR16.2.2.1 (-1) (-1)).mono ?_
              rintro e w17 ⟨rfl, hb⟩
              rw [first_bad hv.out]
              have hR17 := hR16.below hb
              have hG17 := hG16.below hb
              have hb17 := hb16.trans (hb.mono hb16.size)
              clear hb hR16 hG16 hb16
              go_wp2_with (refine ld30m rfl _ rfl g i (bookCells B ta tc sa sc) rfl hR17.2.1 rfl ?_)
              refine (both_v hG17 hR17.2.2.1 (-1)).mono ?_
              rintro e w18 ⟨v18, rfl, hb, _⟩
              rw [both_bad hv.out]
              have hR18 := hR17.below hb
              have hG18 := hG17.below hb
              have hb18 := hb17.trans (hb.mono hb17.size)
              clear hb hR17 hG17 hb17
              go_wp2_with (refine ld30m rfl _ rfl g i (bookCells B ta tc sa sc) rfl hR18.2.1 rfl ?_)
              refine (wrong_v hG18 hR18.2.2.1).mono ?_
              rintro e w19 ⟨v19, rfl, hb, _⟩
              rw [wrong_bad hv.out]
              have hR19 := hR18.below hb
              have hG19 := hG18.below hb
              have hb19 := hb18.trans (hb.mono hb18.size)
              clear hb hR18 hG18 hb18
              go_wp2_with (refine ld30m rfl _ rfl g i (bookCells B ta tc sa sc) rfl hR19.2.1 rfl ?_)
              refine (check_v hR19.2.2.1).mono ?_
              rintro e w20 ⟨rfl, hb⟩
              rw [check_bad hv.out]
              have hR20 := hR19.below hb
              have hG20 := hG19.below hb
              have hb20 := hb19.trans (hb.mono hb19.size)
              clear hb hR19 hG19 hb19
              go_wp2_with fail
              refine ⟨⟨i + 1, by omega, rfl, rfl, rfl, congrArg (Value.int .i64) (Int.natCast_succ i).symm, hb20⟩, knM_lt hlt rfl rfl⟩
            · have hlt' : ¬ (i : Int) < 15 := by omega
              have hGe := hG0.below hb6
              clear hkb hG0 hb6 hb11 hlt hi
              obtain ⟨k, hk⟩ : ∃ k : Int, (i : Int) = k := ⟨_, rfl⟩
              clear hi1 hi2 hi3 hi4 hi5 hi6 hi7 hi8 hi9 hi10
              have hae := ha6
              clear ha6
              obtain ⟨we, hwe⟩ : ∃ we, W6 = we := ⟨_, rfl⟩
              subst hwe
              go_wp2_with fail
              refine (torn_any _).mono ?_
              rintro e q1 ⟨bv, rfl, hb, hB⟩
              have hGq1 := hGe.below hb
              have haq1 := hae.trans (hb.mono hae.size)
              clear  hGe hae
              clear hb
              go_wp2_with fail
              refine (height_v hGq1 hB 4).mono ?_
              rintro e q2 ⟨rfl, hb⟩
              rw [k1]
              have hGq2 := hGq1.below hb
              have haq2 := haq1.trans (hb.mono haq1.size)
              clear  hGq1 haq1
              clear hb hB
              have hb : Below q2.heap.size q2 (q2.alloc (.cells #[i64 0, i64 0] 24)) := (Below.refl _ _).alloc (Nat.le_refl _) _
              have hGq3 := hGq2.below hb
              have haq3 := haq2.trans (hb.mono haq2.size)
              clear  hGq2 haq2
              clear hb
              go_wp2_with fail
              refine (torn_any _).mono ?_
              rintro e q4 ⟨bv, rfl, hb, hB⟩
              have hGq4 := hGq3.below hb
              have haq4 := haq3.trans (hb.mono haq3.size)
              clear  hGq3 haq3
              clear hb
              go_wp2_with fail
              refine (floor_v hGq4 hB 2).mono ?_
              rintro e q5 ⟨rfl, hb⟩
              rw [k2]
              have hGq5 := hGq4.below hb
              have haq5 := haq4.trans (hb.mono haq4.size)
              clear  hGq4 haq4
              clear hb hB
              have hb : Below q5.heap.size q5 (q5.alloc (.cells #[i64 0, i64 0] 24)) := (Below.refl _ _).alloc (Nat.le_refl _) _
              have hGq6 := hGq5.below hb
              have haq6 := haq5.trans (hb.mono haq5.size)
              clear  hGq5 haq5
              clear hb
              go_wp2_with fail
              refine (torn_any _).mono ?_
              rintro e q7 ⟨bv, rfl, hb, hB⟩
              have hGq7 := hGq6.below hb
              have haq7 := haq6.trans (hb.mono haq6.size)
              clear  hGq6 haq6
              clear hb
              go_wp2_with fail
              refine (lands_v hGq7 hB 0 0 201).mono ?_
              rintro e q8 ⟨rfl, hb⟩
              rw [k3]
              have hGq8 := hGq7.below hb
              have haq8 := haq7.trans (hb.mono haq7.size)
              clear  hGq7 haq7
              clear hb hB
              go_wp2_with fail
              refine (torn_any _).mono ?_
              rintro e q9 ⟨bv, rfl, hb, hB⟩
              have hGq9 := hGq8.below hb
              have haq9 := haq8.trans (hb.mono haq8.size)
              clear  hGq8 haq8
              clear hb
              go_wp2_with fail
              refine (most_v hGq9 hB 2 0).mono ?_
              rintro e q10 ⟨rfl, hb⟩
              rw [k4]
              have hGq10 := hGq9.below hb
              have haq10 := haq9.trans (hb.mono haq9.size)
              clear  hGq9 haq9
              clear hb hB
              go_wp2_with fail
              refine (torn_any _).mono ?_
              rintro e q11 ⟨bv, rfl, hb, hB⟩
              have hGq11 := hGq10.below hb
              have haq11 := haq10.trans (hb.mono haq10.size)
              clear  hGq10 haq10
              clear hb
              go_wp2_with fail
              refine (first_v hGq11 hB 0 (-1)).mono ?_
              rintro e q12 ⟨rfl, hb⟩
              rw [k5]
              have hGq12 := hGq11.below hb
              have haq12 := haq11.trans (hb.mono haq11.size)
              clear  hGq11 haq11
              clear hb hB
              go_wp2_with fail
              refine (torn_any _).mono ?_
              rintro e q13 ⟨bv, rfl, hb, hB⟩
              have hGq13 := hGq12.below hb
              have haq13 := haq12.trans (hb.mono haq12.size)
              clear  hGq12 haq12
              clear hb
              go_wp2_with fail
              refine (both_v hGq13 hB 201).mono ?_
              rintro e q14 ⟨v, rfl, hb, _⟩
              rw [k6]
              have hGq14 := hGq13.below hb
              have haq14 := haq13.trans (hb.mono haq13.size)
              clear  hGq13 haq13
              clear hb hB
              go_wp2_with fail
              refine (torn_any _).mono ?_
              rintro e q15 ⟨bv, rfl, hb, hB⟩
              have hGq15 := hGq14.below hb
              have haq15 := haq14.trans (hb.mono haq14.size)
              clear  hGq14 haq14
              clear hb
              go_wp2_with fail
              refine (height_v hGq15 hB 0).mono ?_
              rintro e q16 ⟨rfl, hb⟩
              rw [k7]
              have hGq16 := hGq15.below hb
              have haq16 := haq15.trans (hb.mono haq15.size)
              clear  hGq15 haq15
              clear hb hB
              have hb : Below q16.heap.size q16 (q16.alloc (.cells #[i64 0, i64 0] 24)) := (Below.refl _ _).alloc (Nat.le_refl _) _
              have hGq17 := hGq16.below hb
              have haq17 := haq16.trans (hb.mono haq16.size)
              clear  hGq16 haq16
              clear hb
              go_wp2_with fail
              refine (torn_any _).mono ?_
              rintro e q18 ⟨bv, rfl, hb, hB⟩
              have hGq18 := hGq17.below hb
              have haq18 := haq17.trans (hb.mono haq17.size)
              clear  hGq17 haq17
              clear hb
              go_wp2_with fail
              refine (floor_v hGq18 hB 0).mono ?_
              rintro e q19 ⟨rfl, hb⟩
              rw [k8]
              have hGq19 := hGq18.below hb
              have haq19 := haq18.trans (hb.mono haq18.size)
              clear  hGq18 haq18
              clear hb hB
              have hb : Below q19.heap.size q19 (q19.alloc (.cells #[i64 0, i64 0] 24)) := (Below.refl _ _).alloc (Nat.le_refl _) _
              have hGq20 := hGq19.below hb
              have haq20 := haq19.trans (hb.mono haq19.size)
              clear  hGq19 haq19
              clear hb
              go_wp2_with fail
              refine (torn_any _).mono ?_
              rintro e q21 ⟨bv, rfl, hb, hB⟩
              have hGq21 := hGq20.below hb
              have haq21 := haq20.trans (hb.mono haq20.size)
              clear  hGq20 haq20
              clear hb
              go_wp2_with fail
              refine (both_v hGq21 hB 0).mono ?_
              rintro e q22 ⟨v, rfl, hb, _⟩
              rw [k9]
              have hGq22 := hGq21.below hb
              have haq22 := haq21.trans (hb.mono haq21.size)
              clear  hGq21 haq21
              clear hb hB
              go_wp2_with fail
              refine (own_any _).mono ?_
              rintro e q23 ⟨bv, rfl, hb, hB⟩
              have hGq23 := hGq22.below hb
              have haq23 := haq22.trans (hb.mono haq22.size)
              clear  hGq22 haq22
              clear hb
              go_wp2_with fail
              refine (most_v hGq23 hB 1 0).mono ?_
              rintro e q24 ⟨rfl, hb⟩
              rw [k10]
              have hGq24 := hGq23.below hb
              have haq24 := haq23.trans (hb.mono haq23.size)
              clear  hGq23 haq23
              clear hb hB
              go_wp2_with fail
              have hb : Below q24.heap.size q24 (q24.alloc (.cells kindsC 63)) := (Below.refl _ _).alloc (Nat.le_refl _) _
              have hk0 := heap_alloc_new q24 (.cells kindsC 63)
              obtain ⟨g2, hg2⟩ : ∃ g2, q24.heap.size = g2 := ⟨_, rfl⟩
              have hGK := hGq24.below hb
              have haK := haq24.trans (hb.mono haq24.size)
              clear  hGq24 haq24
              rw [hg2] at hk0 ⊢
              clear hg2 hb
              obtain ⟨W0, hW0⟩ : ∃ W0, q24.alloc (.cells kindsC 63) = W0 := ⟨_, rfl⟩
              rw [hW0] at hk0 hGK haK
              refine Eq.mp (congrArg _ hW0.symm) ?_
              clear hW0
              refine wp_loop (KiR g2 W0) (fun act _ => knM 5 40 act) ?_ ?_
              · exact ⟨0, Nat.zero_le _, rfl, rfl, rfl, rfl, Below.refl _ _⟩
              · rintro act W6 ⟨k, hk, hsz, hdf, s1, s2, hb6⟩
                rw [act_eta act 496 hsz hdf]
                simp only [show List.range 496 = [0, 1, 2, 3, 4, 5, 6, 7, 8, 9, 10, 11, 12, 13, 14, 15, 16, 17, 18, 19, 20, 21, 22, 23, 24, 25, 26, 27, 28, 29, 30, 31, 32, 33, 34, 35, 36, 37, 38, 39, 40, 41, 42, 43, 44, 45, 46, 47, 48, 49, 50, 51, 52, 53, 54, 55, 56, 57, 58, 59, 60, 61, 62, 63, 64, 65, 66, 67, 68, 69, 70, 71, 72, 73, 74, 75, 76, 77, 78, 79, 80, 81, 82, 83, 84, 85, 86, 87, 88, 89, 90, 91, 92, 93, 94, 95, 96, 97, 98, 99, 100, 101, 102, 103, 104, 105, 106, 107, 108, 109, 110, 111, 112, 113, 114, 115, 116, 117, 118, 119, 120, 121, 122, 123, 124, 125, 126, 127, 128, 129, 130, 131, 132, 133, 134, 135, 136, 137, 138, 139, 140, 141, 142, 143, 144, 145, 146, 147, 148, 149, 150, 151, 152, 153, 154, 155, 156, 157, 158, 159, 160, 161, 162, 163, 164, 165, 166, 167, 168, 169, 170, 171, 172, 173, 174, 175, 176, 177, 178, 179, 180, 181, 182, 183, 184, 185, 186, 187, 188, 189, 190, 191, 192, 193, 194, 195, 196, 197, 198, 199, 200, 201, 202, 203, 204, 205, 206, 207, 208, 209, 210, 211, 212, 213, 214, 215, 216, 217, 218, 219, 220, 221, 222, 223, 224, 225, 226, 227, 228, 229, 230, 231, 232, 233, 234, 235, 236, 237, 238, 239, 240, 241, 242, 243, 244, 245, 246, 247, 248, 249, 250, 251, 252, 253, 254, 255, 256, 257, 258, 259, 260, 261, 262, 263, 264, 265, 266, 267, 268, 269, 270, 271, 272, 273, 274, 275, 276, 277, 278, 279, 280, 281, 282, 283, 284, 285, 286, 287, 288, 289, 290, 291, 292, 293, 294, 295, 296, 297, 298, 299, 300, 301, 302, 303, 304, 305, 306, 307, 308, 309, 310, 311, 312, 313, 314, 315, 316, 317, 318, 319, 320, 321, 322, 323, 324, 325, 326, 327, 328, 329, 330, 331, 332, 333, 334, 335, 336, 337, 338, 339, 340, 341, 342, 343, 344, 345, 346, 347, 348, 349, 350, 351, 352, 353, 354, 355, 356, 357, 358, 359, 360, 361, 362, 363, 364, 365, 366, 367, 368, 369, 370, 371, 372, 373, 374, 375, 376, 377, 378, 379, 380, 381, 382, 383, 384, 385, 386, 387, 388, 389, 390, 391, 392, 393, 394, 395, 396, 397, 398, 399, 400, 401, 402, 403, 404, 405, 406, 407, 408, 409, 410, 411, 412, 413, 414, 415, 416, 417, 418, 419, 420, 421, 422, 423, 424, 425, 426, 427, 428, 429, 430, 431, 432, 433, 434, 435, 436, 437, 438, 439, 440, 441, 442, 443, 444, 445, 446, 447, 448, 449, 450, 451, 452, 453, 454, 455, 456, 457, 458, 459, 460, 461, 462, 463, 464, 465, 466, 467, 468, 469, 470, 471, 472, 473, 474, 475, 476, 477, 478, 479, 480, 481, 482, 483, 484, 485, 486, 487, 488, 489, 490, 491, 492, 493, 494, 495] from rfl, List.map_cons, List.map_nil, s1, s2]
                clear s1 s2
                have ha6 := haK.trans (hb6.mono haK.size)
                have hG6 := hGK.below hb6
                by_cases hlt : k < 5
                · have hlt' : (k : Int) < 5 := by omega
                  have hk6 := (hb6.block _ (Array.getElem?_eq_some_iff.1 hk0).1).trans hk0
                  have hkl := (Array.getElem?_eq_some_iff.1 hk6).1
                  obtain ⟨a0, a1, a2, a3, c0, c1, c2, c3, hr⟩ := kinds k hlt
                  replace hr := Lib.hid hr
                  have hi84 := fun W => idx84 g2 k W hlt
                  go_wp2_with fail
                  refine rg_region rdKn41 pureKn41 (gKn41 g2 k a0 a1 a2 a3) BR (by kernel_rfl) (by kernel_rfl) (fun n => BR.drawn _ n) BR.refl (fun _ _ _ => BR.trans) ?_ ?_ ?_
                  · intro i hi vs wA wB hG hR
                    match i, hi, hG with
                    | 0, _, hG => obtain ⟨v, h1, h2⟩ := hG; exact ⟨v, h1, h2.below hR⟩
                    | 1, _, hG => exact hG
                    | 2, _, hG => exact hG
                    | 3, _, hG => exact hG
                    | 4, _, hG => exact hG
                    | 5, _, hG => exact hG
                    | 6, _, hG => exact hG
                    | 7, _, hG => exact hG
                    | 8, _, hG => exact hG
                    | 9, _, hG => exact hG
                    | 10, _, hG => exact hG
                    | 11, _, hG => exact hG
                    | 12, _, hG => exact hG
                    | 13, _, hG => exact hG
                    | 14, _, hG => exact hG
                    | 15, _, hG => exact hG
                    | 16, _, hG => exact hG
                    | 17, _, hG => exact hG
                    | 18, _, hG => exact hG
                    | 19, _, hG => exact hG
                    | 20, _, hG => exact hG
                    | 21, _, hG => exact hG
                    | _ + 22, _, _ => trivial
                  · intro i op ho act wA hR hF hD
                    have sz : act.tmps.size = 496 := hF.size
                    match i, ho, hD with
                    | 0, ho, hD =>
                      cases ho
                      refine rgw_call (wanted_none rfl) 51 #[] (by simp [go_sem]) rfl ?_
                      refine (own_any wA).mono ?_
                      rintro e wB ⟨v, rfl, hb, h2⟩
                      exact ⟨_, rfl, hb, v, congrArg (fun v => [v]) (slotOf_same act 332 _ (by omega)), h2⟩
                    | 1, ho, hD =>
                      cases ho
                      have e39 := slot_tmps (show slotOf act 39 = .slice (some ⟨g2, 0, none⟩) 5 5 from hF.slot 39 (by kernel_rfl))
                      refine rgw_val (wanted_none rfl) (.slice (some ⟨g2, 0, none⟩) 5 5) (by simp [go_sem, e39]) (BR.refl _) ?_
                      exact congrArg (fun v => [v]) (slotOf_same act 333 _ (by omega))
                    | 2, ho, hD =>
                      cases ho
                      have e40 := slot_tmps (show slotOf act 40 = i64 k from hF.slot 40 (by kernel_rfl))
                      refine rgw_val (wanted_none rfl) (i64 k) (by simp [go_sem, e40]) (BR.refl _) ?_
                      exact congrArg (fun v => [v]) (slotOf_same act 334 _ (by omega))
                    | 3, ho, hD =>
                      cases ho
                      have e333 := slot_tmps (List.cons.inj (hD 1 (by decide))).1
                      have e334 := slot_tmps (List.cons.inj (hD 2 (by decide))).1
                      refine rgw_val (wanted_none rfl) (.pointer (some ⟨g2, k * 4, none⟩)) (by simp [go_sem, e333, e334, hi84]) (BR.refl _) ?_
                      exact congrArg (fun v => [v]) (slotOf_same act 335 _ (by omega))
                    | 4, ho, hD =>
                      cases ho
                      have e335 := slot_tmps (List.cons.inj (hD 3 (by decide))).1
                      refine rgw_val (wanted_none rfl) (.pointer (some ⟨g2, k * 4, none⟩)) (by simp [go_sem, e335]) (BR.refl _) ?_
                      exact congrArg (fun v => [v]) (slotOf_same act 336 _ (by omega))
                    | 5, ho, hD =>
                      cases ho
                      have e336 := slot_tmps (List.cons.inj (hD 4 (by decide))).1
                      have hkA := (Below.block hR _ hkl).trans hk6
                      have hcx : wA.cell? ⟨g2, k * 4, none⟩ = some (i64 a0) := (cells_of hkA _).trans c0
                      refine rgw_val (wanted_none rfl) (i64 a0) (by simp [go_sem, e336, hcx]) (BR.refl _) ?_
                      exact congrArg (fun v => [v]) (slotOf_same act 337 _ (by omega))
                    | 6, ho, hD =>
                      cases ho
                      have e39 := slot_tmps (show slotOf act 39 = .slice (some ⟨g2, 0, none⟩) 5 5 from hF.slot 39 (by kernel_rfl))
                      refine rgw_val (wanted_none rfl) (.slice (some ⟨g2, 0, none⟩) 5 5) (by simp [go_sem, e39]) (BR.refl _) ?_
                      exact congrArg (fun v => [v]) (slotOf_same act 338 _ (by omega))
                    | 7, ho, hD =>
                      cases ho
                      have e40 := slot_tmps (show slotOf act 40 = i64 k from hF.slot 40 (by kernel_rfl))
                      refine rgw_val (wanted_none rfl) (i64 k) (by simp [go_sem, e40]) (BR.refl _) ?_
                      exact congrArg (fun v => [v]) (slotOf_same act 339 _ (by omega))
                    | 8, ho, hD =>
                      cases ho
                      have e338 := slot_tmps (List.cons.inj (hD 6 (by decide))).1
                      have e339 := slot_tmps (List.cons.inj (hD 7 (by decide))).1
                      refine rgw_val (wanted_none rfl) (.pointer (some ⟨g2, k * 4, none⟩)) (by simp [go_sem, e338, e339, hi84]) (BR.refl _) ?_
                      exact congrArg (fun v => [v]) (slotOf_same act 340 _ (by omega))
                    | 9, ho, hD =>
                      cases ho
                      have e340 := slot_tmps (List.cons.inj (hD 8 (by decide))).1
                      refine rgw_val (wanted_none rfl) (.pointer (some ⟨g2, k * 4 + 1, none⟩)) (by simp [go_sem, e340]) (BR.refl _) ?_
                      exact congrArg (fun v => [v]) (slotOf_same act 341 _ (by omega))
                    | 10, ho, hD =>
                      cases ho
                      have e341 := slot_tmps (List.cons.inj (hD 9 (by decide))).1
                      have hkA := (Below.block hR _ hkl).trans hk6
                      have hcx : wA.cell? ⟨g2, k * 4 + 1, none⟩ = some (i64 a1) := (cells_of hkA _).trans c1
                      refine rgw_val (wanted_none rfl) (i64 a1) (by simp [go_sem, e341, hcx]) (BR.refl _) ?_
                      exact congrArg (fun v => [v]) (slotOf_same act 342 _ (by omega))
                    | 11, ho, hD =>
                      cases ho
                      have e39 := slot_tmps (show slotOf act 39 = .slice (some ⟨g2, 0, none⟩) 5 5 from hF.slot 39 (by kernel_rfl))
                      refine rgw_val (wanted_none rfl) (.slice (some ⟨g2, 0, none⟩) 5 5) (by simp [go_sem, e39]) (BR.refl _) ?_
                      exact congrArg (fun v => [v]) (slotOf_same act 343 _ (by omega))
                    | 12, ho, hD =>
                      cases ho
                      have e40 := slot_tmps (show slotOf act 40 = i64 k from hF.slot 40 (by kernel_rfl))
                      refine rgw_val (wanted_none rfl) (i64 k) (by simp [go_sem, e40]) (BR.refl _) ?_
                      exact congrArg (fun v => [v]) (slotOf_same act 344 _ (by omega))
                    | 13, ho, hD =>
                      cases ho
                      have e343 := slot_tmps (List.cons.inj (hD 11 (by decide))).1
                      have e344 := slot_tmps (List.cons.inj (hD 12 (by decide))).1
                      refine rgw_val (wanted_none rfl) (.pointer (some ⟨g2, k * 4, none⟩)) (by simp [go_sem, e343, e344, hi84]) (BR.refl _) ?_
                      exact congrArg (fun v => [v]) (slotOf_same act 345 _ (by omega))
                    | 14, ho, hD =>
                      cases ho
                      have e345 := slot_tmps (List.cons.inj (hD 13 (by decide))).1
                      refine rgw_val (wanted_none rfl) (.pointer (some ⟨g2, k * 4 + 2, none⟩)) (by simp [go_sem, e345]) (BR.refl _) ?_
                      exact congrArg (fun v => [v]) (slotOf_same act 346 _ (by omega))
                    | 15, ho, hD =>
                      cases ho
                      have e346 := slot_tmps (List.cons.inj (hD 14 (by decide))).1
                      have hkA := (Below.block hR _ hkl).trans hk6
                      have hcx : wA.cell? ⟨g2, k * 4 + 2, none⟩ = some (i64 a2) := (cells_of hkA _).trans c2
                      refine rgw_val (wanted_none rfl) (i64 a2) (by simp [go_sem, e346, hcx]) (BR.refl _) ?_
                      exact congrArg (fun v => [v]) (slotOf_same act 347 _ (by omega))
                    | 16, ho, hD =>
                      cases ho
                      obtain ⟨v, dv, hB⟩ := hD 0 (by decide)
                      have ev := slot_tmps (List.cons.inj dv).1
                      have e1 := slot_tmps (List.cons.inj (hD 5 (by decide))).1
                      have e2 := slot_tmps (List.cons.inj (hD 10 (by decide))).1
                      have e3 := slot_tmps (List.cons.inj (hD 15 (by decide))).1
                      refine rgw_call (wanted_none rfl) 29 #[v, i64 a0, i64 a1, i64 a2] (by simp [go_sem, ev, e1, e2, e3]) rfl ?_
                      refine (lands_v (hG6.below hR) hB a0 a1 a2).mono ?_
                      rintro e wB ⟨rfl, hb⟩
                      rw [hr.out]
                      exact ⟨_, rfl, hb, congrArg (fun v => [v]) (slotOf_same act 348 _ (by omega))⟩
                    | 17, ho, hD =>
                      cases ho
                      have e348 := slot_tmps (List.cons.inj (hD 16 (by decide))).1
                      refine rgw_val (wanted_none rfl) (.tuple #[i64 a3, i64 0]) (by simp [go_sem, e348]) (BR.refl _) ?_
                      exact congrArg (fun v => [v]) (slotOf_same act 331 _ (by omega))
                    | 18, ho, hD =>
                      cases ho
                      have e331 := slot_tmps (List.cons.inj (hD 17 (by decide))).1
                      refine rgw_val (wanted_none rfl) (i64 a3) (by simp [go_sem, e331]) (BR.refl _) ?_
                      exact congrArg (fun v => [v]) (slotOf_same act 349 _ (by omega))
                    | 19, ho, hD =>
                      cases ho
                      have e331 := slot_tmps (List.cons.inj (hD 17 (by decide))).1
                      refine rgw_val (wanted_none rfl) (i64 0) (by simp [go_sem, e331]) (BR.refl _) ?_
                      exact congrArg (fun v => [v]) (slotOf_same act 350 _ (by omega))
                    | 20, ho, hD =>
                      cases ho
                      have e349 := slot_tmps (List.cons.inj (hD 18 (by decide))).1
                      refine rgw_val (wanted_none rfl) (i64 a3) (by simp [go_sem, e349]) (BR.refl _) ?_
                      exact congrArg (fun v => [v]) (slotOf_same act 41 _ (by omega))
                    | 21, ho, hD =>
                      cases ho
                      have e350 := slot_tmps (List.cons.inj (hD 19 (by decide))).1
                      refine rgw_val (wanted_none rfl) (i64 0) (by simp [go_sem, e350]) (BR.refl _) ?_
                      exact congrArg (fun v => [v]) (slotOf_same act 42 _ (by omega))
                    | _ + 22, ho, _ => cases ho
                  · intro act wA hR hF hA
                    have f39 : slotOf act 39 = .slice (some ⟨g2, 0, none⟩) 5 5 := hF.slot 39 (by kernel_rfl)
                    have f40 : slotOf act 40 = i64 k := hF.slot 40 (by kernel_rfl)
                    have f41 : slotOf act 41 = i64 a3 := (List.cons.inj (hA 20 (by decide))).1
                    have f42 : slotOf act 42 = i64 0 := (List.cons.inj (hA 21 (by decide))).1
                    have f331 : slotOf act 331 = .tuple #[i64 a3, i64 0] := (List.cons.inj (hA 17 (by decide))).1
                    have f333 : slotOf act 333 = .slice (some ⟨g2, 0, none⟩) 5 5 := (List.cons.inj (hA 1 (by decide))).1
                    have f334 : slotOf act 334 = i64 k := (List.cons.inj (hA 2 (by decide))).1
                    have f335 : slotOf act 335 = .pointer (some ⟨g2, k * 4, none⟩) := (List.cons.inj (hA 3 (by decide))).1
                    have f336 : slotOf act 336 = .pointer (some ⟨g2, k * 4, none⟩) := (List.cons.inj (hA 4 (by decide))).1
                    have f337 : slotOf act 337 = i64 a0 := (List.cons.inj (hA 5 (by decide))).1
                    have f338 : slotOf act 338 = .slice (some ⟨g2, 0, none⟩) 5 5 := (List.cons.inj (hA 6 (by decide))).1
                    have f339 : slotOf act 339 = i64 k := (List.cons.inj (hA 7 (by decide))).1
                    have f340 : slotOf act 340 = .pointer (some ⟨g2, k * 4, none⟩) := (List.cons.inj (hA 8 (by decide))).1
                    have f341 : slotOf act 341 = .pointer (some ⟨g2, k * 4 + 1, none⟩) := (List.cons.inj (hA 9 (by decide))).1
                    have f342 : slotOf act 342 = i64 a1 := (List.cons.inj (hA 10 (by decide))).1
                    have f343 : slotOf act 343 = .slice (some ⟨g2, 0, none⟩) 5 5 := (List.cons.inj (hA 11 (by decide))).1
                    have f344 : slotOf act 344 = i64 k := (List.cons.inj (hA 12 (by decide))).1
                    have f345 : slotOf act 345 = .pointer (some ⟨g2, k * 4, none⟩) := (List.cons.inj (hA 13 (by decide))).1
                    have f346 : slotOf act 346 = .pointer (some ⟨g2, k * 4 + 2, none⟩) := (List.cons.inj (hA 14 (by decide))).1
                    have f347 : slotOf act 347 = i64 a2 := (List.cons.inj (hA 15 (by decide))).1
                    have f348 : slotOf act 348 = .tuple #[i64 a3, i64 0] := (List.cons.inj (hA 16 (by decide))).1
                    have f349 : slotOf act 349 = i64 a3 := (List.cons.inj (hA 18 (by decide))).1
                    have f350 : slotOf act 350 = i64 0 := (List.cons.inj (hA 19 (by decide))).1
                    rw [act_eta act 496 hF.size hF.defers]
                    simp only [show List.range 496 = [0, 1, 2, 3, 4, 5, 6, 7, 8, 9, 10, 11, 12, 13, 14, 15, 16, 17, 18, 19, 20, 21, 22, 23, 24, 25, 26, 27, 28, 29, 30, 31, 32, 33, 34, 35, 36, 37, 38, 39, 40, 41, 42, 43, 44, 45, 46, 47, 48, 49, 50, 51, 52, 53, 54, 55, 56, 57, 58, 59, 60, 61, 62, 63, 64, 65, 66, 67, 68, 69, 70, 71, 72, 73, 74, 75, 76, 77, 78, 79, 80, 81, 82, 83, 84, 85, 86, 87, 88, 89, 90, 91, 92, 93, 94, 95, 96, 97, 98, 99, 100, 101, 102, 103, 104, 105, 106, 107, 108, 109, 110, 111, 112, 113, 114, 115, 116, 117, 118, 119, 120, 121, 122, 123, 124, 125, 126, 127, 128, 129, 130, 131, 132, 133, 134, 135, 136, 137, 138, 139, 140, 141, 142, 143, 144, 145, 146, 147, 148, 149, 150, 151, 152, 153, 154, 155, 156, 157, 158, 159, 160, 161, 162, 163, 164, 165, 166, 167, 168, 169, 170, 171, 172, 173, 174, 175, 176, 177, 178, 179, 180, 181, 182, 183, 184, 185, 186, 187, 188, 189, 190, 191, 192, 193, 194, 195, 196, 197, 198, 199, 200, 201, 202, 203, 204, 205, 206, 207, 208, 209, 210, 211, 212, 213, 214, 215, 216, 217, 218, 219, 220, 221, 222, 223, 224, 225, 226, 227, 228, 229, 230, 231, 232, 233, 234, 235, 236, 237, 238, 239, 240, 241, 242, 243, 244, 245, 246, 247, 248, 249, 250, 251, 252, 253, 254, 255, 256, 257, 258, 259, 260, 261, 262, 263, 264, 265, 266, 267, 268, 269, 270, 271, 272, 273, 274, 275, 276, 277, 278, 279, 280, 281, 282, 283, 284, 285, 286, 287, 288, 289, 290, 291, 292, 293, 294, 295, 296, 297, 298, 299, 300, 301, 302, 303, 304, 305, 306, 307, 308, 309, 310, 311, 312, 313, 314, 315, 316, 317, 318, 319, 320, 321, 322, 323, 324, 325, 326, 327, 328, 329, 330, 331, 332, 333, 334, 335, 336, 337, 338, 339, 340, 341, 342, 343, 344, 345, 346, 347, 348, 349, 350, 351, 352, 353, 354, 355, 356, 357, 358, 359, 360, 361, 362, 363, 364, 365, 366, 367, 368, 369, 370, 371, 372, 373, 374, 375, 376, 377, 378, 379, 380, 381, 382, 383, 384, 385, 386, 387, 388, 389, 390, 391, 392, 393, 394, 395, 396, 397, 398, 399, 400, 401, 402, 403, 404, 405, 406, 407, 408, 409, 410, 411, 412, 413, 414, 415, 416, 417, 418, 419, 420, 421, 422, 423, 424, 425, 426, 427, 428, 429, 430, 431, 432, 433, 434, 435, 436, 437, 438, 439, 440, 441, 442, 443, 444, 445, 446, 447, 448, 449, 450, 451, 452, 453, 454, 455, 456, 457, 458, 459, 460, 461, 462, 463, 464, 465, 466, 467, 468, 469, 470, 471, 472, 473, 474, 475, 476, 477, 478, 479, 480, 481, 482, 483, 484, 485, 486, 487, 488, 489, 490, 491, 492, 493, 494, 495] from rfl, List.map_cons, List.map_nil, f39, f40, f41, f42, f331, f333, f334, f335, f336, f337, f338, f339, f340, f341, f342, f343, f344, f345, f346, f347, f348, f349, f350]
                    clear hA hF f39 f40 f41 f42 f331 f333 f334 f335 f336 f337 f338 f339 f340 f341 f342 f343 f344 f345 f346 f347 f348 f349 f350
                    have hkA := (Below.block hR _ hkl).trans hk6
                    have hcx : wA.cell? ⟨g2, k * 4 + 3, none⟩ = some (i64 a3) := (cells_of hkA _).trans c3
                    have hkAl := (Array.getElem?_eq_some_iff.1 hkA).1
                    have hbA := hb6.trans (Below.mono hR hb6.size)
                    clear hR c0 c1 c2 c3
                    go_wp2_with fail
                    refine ⟨⟨k + 1, by omega, rfl, rfl, rfl, congrArg (Value.int .i64) (Int.natCast_succ k).symm, hbA⟩, knM_lt hlt rfl rfl⟩
                · have hlt' : ¬ (k : Int) < 5 := by omega
                  clear hk0 hGK haK hb6 hlt hk
                  have hGW6x := hG6
                  have haW6x := ha6
                  clear hG6 ha6
                  go_wp2_with fail
                  refine (own_any _).mono ?_
                  rintro e q101 ⟨bv, rfl, hb, hB⟩
                  have hGq101 := hGW6x.below hb
                  have haq101 := haW6x.trans (hb.mono haW6x.size)
                  clear  hGW6x haW6x
                  clear hb
                  go_wp2_with fail
                  refine (height_v hGq101 hB 0).mono ?_
                  rintro e q102 ⟨rfl, hb⟩
                  rw [k16]
                  have hGq102 := hGq101.below hb
                  have haq102 := haq101.trans (hb.mono haq101.size)
                  clear  hGq101 haq101
                  clear hb hB
                  have hb : Below q102.heap.size q102 (q102.alloc (.cells #[i64 10, i64 12] 24)) := (Below.refl _ _).alloc (Nat.le_refl _) _
                  have hpq103 := heap_alloc_new q102 (.cells #[i64 10, i64 12] 24)
                  have hGq103 := hGq102.below hb
                  have haq103 := haq102.trans (hb.mono haq102.size)
                  clear  hGq102 haq102
                  clear hb
                  go_wp2_with fail
                  refine (sounded_any _).mono ?_
                  rintro e q104 ⟨bv, rfl, hb, hB⟩
                  have hpq104 := (hb.block _ (Array.getElem?_eq_some_iff.1 hpq103).1).trans hpq103
                  have hGq104 := hGq103.below hb
                  have haq104 := haq103.trans (hb.mono haq103.size)
                  clear hpq103 hGq103 haq103
                  clear hb
                  go_wp2_with fail
                  refine (floor_v hGq104 hB 0).mono ?_
                  rintro e q105 ⟨rfl, hb⟩
                  rw [k17]
                  have hpq105 := (hb.block _ (Array.getElem?_eq_some_iff.1 hpq104).1).trans hpq104
                  have hGq105 := hGq104.below hb
                  have haq105 := haq104.trans (hb.mono haq104.size)
                  clear hpq104 hGq104 haq104
                  clear hb hB
                  have hb : Below q105.heap.size q105 (q105.alloc (.cells #[i64 2, i64 2] 24)) := (Below.refl _ _).alloc (Nat.le_refl _) _
                  have hqq106 := heap_alloc_new q105 (.cells #[i64 2, i64 2] 24)
                  have hpq106 := (hb.block _ (Array.getElem?_eq_some_iff.1 hpq105).1).trans hpq105
                  have hGq106 := hGq105.below hb
                  have haq106 := haq105.trans (hb.mono haq105.size)
                  clear hpq105 hGq105 haq105
                  clear hb
                  go_wp2_with fail
                  refine (own_any _).mono ?_
                  rintro e q107 ⟨bv, rfl, hb, hB⟩
                  have hpq107 := (hb.block _ (Array.getElem?_eq_some_iff.1 hpq106).1).trans hpq106
                  have hqq107 := (hb.block _ (Array.getElem?_eq_some_iff.1 hqq106).1).trans hqq106
                  have hGq107 := hGq106.below hb
                  have haq107 := haq106.trans (hb.mono haq106.size)
                  clear hpq106 hqq106 hGq106 haq106
                  clear hb
                  go_wp2_with fail
                  refine (most_v hGq107 hB 0 1).mono ?_
                  rintro e q108 ⟨rfl, hb⟩
                  rw [k18]
                  have hpq108 := (hb.block _ (Array.getElem?_eq_some_iff.1 hpq107).1).trans hpq107
                  have hqq108 := (hb.block _ (Array.getElem?_eq_some_iff.1 hqq107).1).trans hqq107
                  have hGq108 := hGq107.below hb
                  have haq108 := haq107.trans (hb.mono haq107.size)
                  clear hpq107 hqq107 hGq107 haq107
                  clear hb hB
                  go_wp2_with fail
                  refine (own_any _).mono ?_
                  rintro e q109 ⟨bv, rfl, hb, hB⟩
                  have hpq109 := (hb.block _ (Array.getElem?_eq_some_iff.1 hpq108).1).trans hpq108
                  have hqq109 := (hb.block _ (Array.getElem?_eq_some_iff.1 hqq108).1).trans hqq108
                  have hGq109 := hGq108.below hb
                  have haq109 := haq108.trans (hb.mono haq108.size)
                  clear hpq108 hqq108 hGq108 haq108
                  clear hb
                  go_wp2_with fail
                  refine (first_v hGq109 hB 0 30).mono ?_
                  rintro e q110 ⟨rfl, hb⟩
                  rw [k19]
                  have hpq110 := (hb.block _ (Array.getElem?_eq_some_iff.1 hpq109).1).trans hpq109
                  have hqq110 := (hb.block _ (Array.getElem?_eq_some_iff.1 hqq109).1).trans hqq109
                  have hGq110 := hGq109.below hb
                  have haq110 := haq109.trans (hb.mono haq109.size)
                  clear hpq109 hqq109 hGq109 haq109
                  clear hb hB
                  go_wp2_with fail
                  refine (own_any _).mono ?_
                  rintro e q111 ⟨bv, rfl, hb, hB⟩
                  have hpq111 := (hb.block _ (Array.getElem?_eq_some_iff.1 hpq110).1).trans hpq110
                  have hqq111 := (hb.block _ (Array.getElem?_eq_some_iff.1 hqq110).1).trans hqq110
                  have hGq111 := hGq110.below hb
                  have haq111 := haq110.trans (hb.mono haq110.size)
                  clear hpq110 hqq110 hGq110 haq110
                  clear hb
                  go_wp2_with fail
                  refine (first_v hGq111 hB 1 30).mono ?_
                  rintro e q112 ⟨rfl, hb⟩
                  rw [k20]
                  have hpq112 := (hb.block _ (Array.getElem?_eq_some_iff.1 hpq111).1).trans hpq111
                  have hqq112 := (hb.block _ (Array.getElem?_eq_some_iff.1 hqq111).1).trans hqq111
                  have hGq112 := hGq111.below hb
                  have haq112 := haq111.trans (hb.mono haq111.size)
                  clear hpq111 hqq111 hGq111 haq111
                  clear hb hB
                  go_wp2_with fail
                  refine (own_any _).mono ?_
                  rintro e q113 ⟨bv, rfl, hb, hB⟩
                  have hpq113 := (hb.block _ (Array.getElem?_eq_some_iff.1 hpq112).1).trans hpq112
                  have hqq113 := (hb.block _ (Array.getElem?_eq_some_iff.1 hqq112).1).trans hqq112
                  have hGq113 := hGq112.below hb
                  have haq113 := haq112.trans (hb.mono haq112.size)
                  clear hpq112 hqq112 hGq112 haq112
                  clear hb
                  go_wp2_with fail
                  refine (both_v hGq113 hB 20).mono ?_
                  rintro e q114 ⟨l1, rfl, hb, hLx⟩
                  rw [k21]
                  rw [k21] at hLx
                  have hL1q114 : ListV q114 l1 [1, 3] := hLx
                  clear hLx
                  have hpq114 := (hb.block _ (Array.getElem?_eq_some_iff.1 hpq113).1).trans hpq113
                  have hqq114 := (hb.block _ (Array.getElem?_eq_some_iff.1 hqq113).1).trans hqq113
                  have hGq114 := hGq113.below hb
                  have haq114 := haq113.trans (hb.mono haq113.size)
                  clear hpq113 hqq113 hGq113 haq113
                  clear hb hB
                  go_wp2_with fail
                  refine (own_any _).mono ?_
                  rintro e q115 ⟨bv, rfl, hb, hB⟩
                  have hpq115 := (hb.block _ (Array.getElem?_eq_some_iff.1 hpq114).1).trans hpq114
                  have hqq115 := (hb.block _ (Array.getElem?_eq_some_iff.1 hqq114).1).trans hqq114
                  have hL1q115 := hL1q114.below hb
                  have hGq115 := hGq114.below hb
                  have haq115 := haq114.trans (hb.mono haq114.size)
                  clear hpq114 hqq114 hL1q114 hGq114 haq114
                  clear hb
                  go_wp2_with fail
                  refine (both_v hGq115 hB 0).mono ?_
                  rintro e q116 ⟨l2, rfl, hb, hLx⟩
                  rw [k22]
                  rw [k22] at hLx
                  have hL2q116 : ListV q116 l2 [1, 3] := hLx
                  clear hLx
                  have hpq116 := (hb.block _ (Array.getElem?_eq_some_iff.1 hpq115).1).trans hpq115
                  have hqq116 := (hb.block _ (Array.getElem?_eq_some_iff.1 hqq115).1).trans hqq115
                  have hL1q116 := hL1q115.below hb
                  have hGq116 := hGq115.below hb
                  have haq116 := haq115.trans (hb.mono haq115.size)
                  clear hpq115 hqq115 hL1q115 hGq115 haq115
                  clear hb hB
                  go_wp2_with fail
                  refine (torn_any _).mono ?_
                  rintro e q117 ⟨bv, rfl, hb, hB⟩
                  have hpq117 := (hb.block _ (Array.getElem?_eq_some_iff.1 hpq116).1).trans hpq116
                  have hqq117 := (hb.block _ (Array.getElem?_eq_some_iff.1 hqq116).1).trans hqq116
                  have hL1q117 := hL1q116.below hb
                  have hL2q117 := hL2q116.below hb
                  have hGq117 := hGq116.below hb
                  have haq117 := haq116.trans (hb.mono haq116.size)
                  clear hpq116 hqq116 hL1q116 hL2q116 hGq116 haq116
                  clear hb
                  go_wp2_with fail
                  refine (right_v hGq117 hB).mono ?_
                  rintro e q118 ⟨rfl, hb⟩
                  rw [k23]
                  have hpq118 := (hb.block _ (Array.getElem?_eq_some_iff.1 hpq117).1).trans hpq117
                  have hqq118 := (hb.block _ (Array.getElem?_eq_some_iff.1 hqq117).1).trans hqq117
                  have hL1q118 := hL1q117.below hb
                  have hL2q118 := hL2q117.below hb
                  have hGq118 := hGq117.below hb
                  have haq118 := haq117.trans (hb.mono haq117.size)
                  clear hpq117 hqq117 hL1q117 hL2q117 hGq117 haq117
                  clear hb hB
                  go_wp2_with fail
                  refine (sounded_any _).mono ?_
                  rintro e q119 ⟨bv, rfl, hb, hB⟩
                  have hpq119 := (hb.block _ (Array.getElem?_eq_some_iff.1 hpq118).1).trans hpq118
                  have hqq119 := (hb.block _ (Array.getElem?_eq_some_iff.1 hqq118).1).trans hqq118
                  have hL1q119 := hL1q118.below hb
                  have hL2q119 := hL2q118.below hb
                  have hGq119 := hGq118.below hb
                  have haq119 := haq118.trans (hb.mono haq118.size)
                  clear hpq118 hqq118 hL1q118 hL2q118 hGq118 haq118
                  clear hb
                  go_wp2_with fail
                  refine (wrong_v hGq119 hB).mono ?_
                  rintro e q120 ⟨l3, rfl, hb, hLx⟩
                  rw [k24]
                  rw [k24] at hLx
                  obtain ⟨wb, wo, wa, wc, rfl, _, _⟩ := hLx
                  have hpq120 := (hb.block _ (Array.getElem?_eq_some_iff.1 hpq119).1).trans hpq119
                  have hqq120 := (hb.block _ (Array.getElem?_eq_some_iff.1 hqq119).1).trans hqq119
                  have hL1q120 := hL1q119.below hb
                  have hL2q120 := hL2q119.below hb
                  have hGq120 := hGq119.below hb
                  have haq120 := haq119.trans (hb.mono haq119.size)
                  clear hpq119 hqq119 hL1q119 hL2q119 hGq119 haq119
                  clear hb hB
                  go_wp2_with fail
                  refine (own_any _).mono ?_
                  rintro e q121 ⟨bv, rfl, hb, hB⟩
                  have hpq121 := (hb.block _ (Array.getElem?_eq_some_iff.1 hpq120).1).trans hpq120
                  have hqq121 := (hb.block _ (Array.getElem?_eq_some_iff.1 hqq120).1).trans hqq120
                  have hL1q121 := hL1q120.below hb
                  have hL2q121 := hL2q120.below hb
                  have hGq121 := hGq120.below hb
                  have haq121 := haq120.trans (hb.mono haq120.size)
                  clear hpq120 hqq120 hL1q120 hL2q120 hGq120 haq120
                  clear hb
                  go_wp2_with fail
                  refine (first_v hGq121 hB 1 200).mono ?_
                  rintro e q122 ⟨rfl, hb⟩
                  rw [k25]
                  have hpq122 := (hb.block _ (Array.getElem?_eq_some_iff.1 hpq121).1).trans hpq121
                  have hqq122 := (hb.block _ (Array.getElem?_eq_some_iff.1 hqq121).1).trans hqq121
                  have hL1q122 := hL1q121.below hb
                  have hL2q122 := hL2q121.below hb
                  have hGq122 := hGq121.below hb
                  have haq122 := haq121.trans (hb.mono haq121.size)
                  clear hpq121 hqq121 hL1q121 hL2q121 hGq121 haq121
                  clear hb hB
                  have hpZ := hpq122
                  have hqZ := hqq122
                  have hL1Z := hL1q122
                  have hL2Z := hL2q122
                  have hGZ := hGq122
                  have haZ := haq122
                  clear hpq122 hqq122 hL1q122 hL2q122 hGq122 haq122
                  obtain ⟨p, hpe⟩ : ∃ p, q102.heap.size = p := ⟨_, rfl⟩
                  obtain ⟨q, hqe⟩ : ∃ q, q105.heap.size = q := ⟨_, rfl⟩
                  rw [hpe] at hpZ
                  rw [hqe] at hqZ
                  have hpl := (Array.getElem?_eq_some_iff.1 hpZ).1
                  have hql := (Array.getElem?_eq_some_iff.1 hqZ).1
                  go_wp2_with fail
                  clear hpe hqe
                  refine rg_region rdKn54 pureKn54 (gKn54 l1 l2 wa wc) BR (by kernel_rfl) (by kernel_rfl) (fun n => BR.drawn _ n) BR.refl (fun _ _ _ => BR.trans) ?_ ?_ ?_
                  · intro i hi vs wA wB hG hR
                    match i, hi, hG with
                    | 0, _, hG => exact hG
                    | 1, _, hG => exact hG
                    | 2, _, hG => exact hG
                    | 3, _, hG => exact hG
                    | 4, _, hG => exact hG
                    | 5, _, hG => exact hG
                    | 6, _, hG => exact hG
                    | 7, _, hG => exact hG
                    | 8, _, hG => exact hG
                    | 9, _, hG => exact hG
                    | 10, _, hG => exact hG
                    | 11, _, hG => exact hG
                    | 12, _, hG => exact hG
                    | 13, _, hG => exact hG
                    | 14, _, hG => exact hG
                    | 15, _, hG => exact hG
                    | 16, _, hG => exact hG
                    | 17, _, hG => exact hG
                    | 18, _, hG => exact hG
                    | 19, _, hG => exact hG
                    | 20, _, hG => exact hG
                    | 21, _, hG => exact hG
                    | 22, _, hG => exact hG
                    | 23, _, hG => exact hG
                    | 24, _, hG => exact hG
                    | 25, _, hG => exact hG
                    | 26, _, hG => exact hG
                    | 27, _, hG => exact hG
                    | 28, _, hG => exact hG
                    | 29, _, hG => exact hG
                    | 30, _, hG => exact hG
                    | 31, _, hG => exact hG
                    | 32, _, hG => exact hG
                    | 33, _, hG => exact hG
                    | 34, _, hG => exact hG
                    | 35, _, hG => exact hG
                    | 36, _, hG => exact hG
                    | 37, _, hG => exact hG
                    | 38, _, hG => exact hG
                    | 39, _, hG => exact hG
                    | 40, _, hG => exact hG
                    | 41, _, hG => exact hG
                    | 42, _, hG => exact hG
                    | 43, _, hG => exact hG
                    | 44, _, hG => exact hG
                    | 45, _, hG => exact hG
                    | 46, _, hG => obtain ⟨g, h1, h2⟩ := hG; exact ⟨g, h1, (hR.block _ (Array.getElem?_eq_some_iff.1 h2).1).trans h2⟩
                    | 47, _, hG => exact hG
                    | 48, _, hG => exact hG
                    | 49, _, hG => exact hG
                    | 50, _, hG => exact hG
                    | 51, _, hG => exact hG
                    | 52, _, hG => exact hG
                    | 53, _, hG => exact hG
                    | 54, _, hG => exact hG
                    | 55, _, hG => obtain ⟨g, h1, h2⟩ := hG; exact ⟨g, h1, (hR.block _ (Array.getElem?_eq_some_iff.1 h2).1).trans h2⟩
                    | 56, _, hG => exact hG
                    | 57, _, hG => exact hG
                    | 58, _, hG => exact hG
                    | 59, _, hG => exact hG
                    | 60, _, hG => exact hG
                    | 61, _, hG => exact hG
                    | 62, _, hG => exact hG
                    | 63, _, hG => exact hG
                    | 64, _, hG => exact hG
                    | 65, _, hG => exact hG
                    | 66, _, hG => exact hG
                    | 67, _, hG => exact hG
                    | 68, _, hG => exact hG
                    | 69, _, hG => exact hG
                    | 70, _, hG => exact hG
                    | 71, _, hG => exact hG
                    | 72, _, hG => exact hG
                    | 73, _, hG => exact hG
                    | 74, _, hG => exact hG
                    | 75, _, hG => exact hG
                    | 76, _, hG => exact hG
                    | 77, _, hG => exact hG
                    | 78, _, hG => exact hG
                    | 79, _, hG => exact hG
                    | 80, _, hG => exact hG
                    | 81, _, hG => exact hG
                    | 82, _, hG => exact hG
                    | 83, _, hG => exact hG
                    | 84, _, hG => exact hG
                    | _ + 85, _, _ => trivial
                  · intro i op ho act wA hR hF hD
                    have sz : act.tmps.size = 496 := hF.size
                    match i, ho, hD with
                    | 0, ho, hD =>
                      cases ho
                      have e20 := slot_tmps (show slotOf act 20 = i64 0 from hF.slot 20 (by kernel_rfl))
                      refine rgw_val (wanted_none rfl) (i64 0) (by simp [go_sem, e20]) (BR.refl _) ?_
                      exact congrArg (fun v => [v]) (slotOf_same act 412 _ (by omega))
                    | 1, ho, hD =>
                      cases ho
                      have e412 := slot_tmps (List.cons.inj (hD 0 (by decide))).1
                      refine rgw_val (wanted_none rfl) (.bool true) (by simp [go_sem, e412]) (BR.refl _) ?_
                      exact congrArg (fun v => [v]) (slotOf_same act 413 _ (by omega))
                    | 2, ho, hD =>
                      cases ho
                      have e413 := slot_tmps (List.cons.inj (hD 1 (by decide))).1
                      refine rgw_val (wanted_none rfl) (.bool true) (by simp [go_sem, e413]) (BR.refl _) ?_
                      exact congrArg (fun v => [v]) (slotOf_same act 414 _ (by omega))
                    | 3, ho, hD =>
                      cases ho
                      have dj : slotOf act 414 = .bool true := (List.cons.inj (hD 2 (by decide))).1
                      have e43 := slot_tmps (show slotOf act 43 = .pointer (some ⟨p, 0, none⟩) from hF.slot 43 (by kernel_rfl))
                      have hpA := (Below.block hR _ hpl).trans hpZ
                      have hpc := cells_of hpA
                      refine rgw_val (by rw [wanted_of (d := 414) rfl rfl dj]; rfl) (.agg #[i64 10, i64 12]) (by simp [go_sem, e43, hpc]) (BR.refl _) ?_
                      exact congrArg (fun v => [v]) (slotOf_same act 415 _ (by omega))
                    | 4, ho, hD =>
                      cases ho
                      have dj : slotOf act 414 = .bool true := (List.cons.inj (hD 2 (by decide))).1
                      refine rgw_call (by rw [wanted_of (d := 414) rfl rfl dj]; rfl) 48 #[i64 10, i64 12] (by simp [go_sem]) rfl ?_
                      refine (range_any _ _ _).mono ?_
                      rintro e wB ⟨rfl, hb⟩
                      exact ⟨_, rfl, hb, congrArg (fun v => [v]) (slotOf_same act 416 _ (by omega))⟩
                    | 5, ho, hD =>
                      cases ho
                      have dj : slotOf act 414 = .bool true := (List.cons.inj (hD 2 (by decide))).1
                      have e415 := slot_tmps (List.cons.inj (hD 3 (by decide))).1
                      have e416 := slot_tmps (List.cons.inj (hD 4 (by decide))).1
                      refine rgw_val (by rw [wanted_of (d := 414) rfl rfl dj]; rfl) (.bool true) (by simp [go_sem, e415, e416]) (BR.refl _) ?_
                      exact congrArg (fun v => [v]) (slotOf_same act 417 _ (by omega))
                    | 6, ho, hD =>
                      cases ho
                      have e414 := slot_tmps (List.cons.inj (hD 2 (by decide))).1
                      have e417 := slot_tmps (List.cons.inj (hD 5 (by decide))).1
                      refine rgw_val (wanted_none rfl) (.bool true) (by simp [go_sem, e414, e417]) (BR.refl _) ?_
                      exact congrArg (fun v => [v]) (slotOf_same act 418 _ (by omega))
                    | 7, ho, hD =>
                      cases ho
                      have e418 := slot_tmps (List.cons.inj (hD 6 (by decide))).1
                      refine rgw_val (wanted_none rfl) (.bool true) (by simp [go_sem, e418]) (BR.refl _) ?_
                      exact congrArg (fun v => [v]) (slotOf_same act 419 _ (by omega))
                    | 8, ho, hD =>
                      cases ho
                      have dj : slotOf act 419 = .bool true := (List.cons.inj (hD 7 (by decide))).1
                      have e22 := slot_tmps (show slotOf act 22 = i64 0 from hF.slot 22 (by kernel_rfl))
                      refine rgw_val (by rw [wanted_of (d := 419) rfl rfl dj]; rfl) (i64 0) (by simp [go_sem, e22]) (BR.refl _) ?_
                      exact congrArg (fun v => [v]) (slotOf_same act 420 _ (by omega))
                    | 9, ho, hD =>
                      cases ho
                      have dj : slotOf act 419 = .bool true := (List.cons.inj (hD 7 (by decide))).1
                      have e420 := slot_tmps (List.cons.inj (hD 8 (by decide))).1
                      refine rgw_val (by rw [wanted_of (d := 419) rfl rfl dj]; rfl) (.bool true) (by simp [go_sem, e420]) (BR.refl _) ?_
                      exact congrArg (fun v => [v]) (slotOf_same act 421 _ (by omega))
                    | 10, ho, hD =>
                      cases ho
                      have e419 := slot_tmps (List.cons.inj (hD 7 (by decide))).1
                      have e421 := slot_tmps (List.cons.inj (hD 9 (by decide))).1
                      refine rgw_val (wanted_none rfl) (.bool true) (by simp [go_sem, e419, e421]) (BR.refl _) ?_
                      exact congrArg (fun v => [v]) (slotOf_same act 422 _ (by omega))
                    | 11, ho, hD =>
                      cases ho
                      have e422 := slot_tmps (List.cons.inj (hD 10 (by decide))).1
                      refine rgw_val (wanted_none rfl) (.bool true) (by simp [go_sem, e422]) (BR.refl _) ?_
                      exact congrArg (fun v => [v]) (slotOf_same act 423 _ (by omega))
                    | 12, ho, hD =>
                      cases ho
                      have dj : slotOf act 423 = .bool true := (List.cons.inj (hD 11 (by decide))).1
                      have e44 := slot_tmps (show slotOf act 44 = .pointer (some ⟨q, 0, none⟩) from hF.slot 44 (by kernel_rfl))
                      have hqA := (Below.block hR _ hql).trans hqZ
                      have hqc := cells_of hqA
                      refine rgw_val (by rw [wanted_of (d := 423) rfl rfl dj]; rfl) (.agg #[i64 2, i64 2]) (by simp [go_sem, e44, hqc]) (BR.refl _) ?_
                      exact congrArg (fun v => [v]) (slotOf_same act 424 _ (by omega))
                    | 13, ho, hD =>
                      cases ho
                      have dj : slotOf act 423 = .bool true := (List.cons.inj (hD 11 (by decide))).1
                      refine rgw_call (by rw [wanted_of (d := 423) rfl rfl dj]; rfl) 37 #[i64 2] (by simp [go_sem]) rfl ?_
                      refine (point_any _ _).mono ?_
                      rintro e wB ⟨rfl, hb⟩
                      exact ⟨_, rfl, hb, congrArg (fun v => [v]) (slotOf_same act 425 _ (by omega))⟩
                    | 14, ho, hD =>
                      cases ho
                      have dj : slotOf act 423 = .bool true := (List.cons.inj (hD 11 (by decide))).1
                      have e424 := slot_tmps (List.cons.inj (hD 12 (by decide))).1
                      have e425 := slot_tmps (List.cons.inj (hD 13 (by decide))).1
                      refine rgw_val (by rw [wanted_of (d := 423) rfl rfl dj]; rfl) (.bool true) (by simp [go_sem, e424, e425]) (BR.refl _) ?_
                      exact congrArg (fun v => [v]) (slotOf_same act 426 _ (by omega))
                    | 15, ho, hD =>
                      cases ho
                      have e423 := slot_tmps (List.cons.inj (hD 11 (by decide))).1
                      have e426 := slot_tmps (List.cons.inj (hD 14 (by decide))).1
                      refine rgw_val (wanted_none rfl) (.bool true) (by simp [go_sem, e423, e426]) (BR.refl _) ?_
                      exact congrArg (fun v => [v]) (slotOf_same act 427 _ (by omega))
                    | 16, ho, hD =>
                      cases ho
                      have e427 := slot_tmps (List.cons.inj (hD 15 (by decide))).1
                      refine rgw_val (wanted_none rfl) (.bool true) (by simp [go_sem, e427]) (BR.refl _) ?_
                      exact congrArg (fun v => [v]) (slotOf_same act 428 _ (by omega))
                    | 17, ho, hD =>
                      cases ho
                      have dj : slotOf act 428 = .bool true := (List.cons.inj (hD 16 (by decide))).1
                      have e24 := slot_tmps (show slotOf act 24 = i64 0 from hF.slot 24 (by kernel_rfl))
                      refine rgw_val (by rw [wanted_of (d := 428) rfl rfl dj]; rfl) (i64 0) (by simp [go_sem, e24]) (BR.refl _) ?_
                      exact congrArg (fun v => [v]) (slotOf_same act 429 _ (by omega))
                    | 18, ho, hD =>
                      cases ho
                      have dj : slotOf act 428 = .bool true := (List.cons.inj (hD 16 (by decide))).1
                      have e429 := slot_tmps (List.cons.inj (hD 17 (by decide))).1
                      refine rgw_val (by rw [wanted_of (d := 428) rfl rfl dj]; rfl) (.bool true) (by simp [go_sem, e429]) (BR.refl _) ?_
                      exact congrArg (fun v => [v]) (slotOf_same act 430 _ (by omega))
                    | 19, ho, hD =>
                      cases ho
                      have e428 := slot_tmps (List.cons.inj (hD 16 (by decide))).1
                      have e430 := slot_tmps (List.cons.inj (hD 18 (by decide))).1
                      refine rgw_val (wanted_none rfl) (.bool true) (by simp [go_sem, e428, e430]) (BR.refl _) ?_
                      exact congrArg (fun v => [v]) (slotOf_same act 431 _ (by omega))
                    | 20, ho, hD =>
                      cases ho
                      have e431 := slot_tmps (List.cons.inj (hD 19 (by decide))).1
                      refine rgw_val (wanted_none rfl) (.bool true) (by simp [go_sem, e431]) (BR.refl _) ?_
                      exact congrArg (fun v => [v]) (slotOf_same act 432 _ (by omega))
                    | 21, ho, hD =>
                      cases ho
                      have dj : slotOf act 432 = .bool true := (List.cons.inj (hD 20 (by decide))).1
                      have e45 := slot_tmps (show slotOf act 45 = i64 40 from hF.slot 45 (by kernel_rfl))
                      refine rgw_val (by rw [wanted_of (d := 432) rfl rfl dj]; rfl) (i64 40) (by simp [go_sem, e45]) (BR.refl _) ?_
                      exact congrArg (fun v => [v]) (slotOf_same act 433 _ (by omega))
                    | 22, ho, hD =>
                      cases ho
                      have dj : slotOf act 432 = .bool true := (List.cons.inj (hD 20 (by decide))).1
                      have e433 := slot_tmps (List.cons.inj (hD 21 (by decide))).1
                      refine rgw_val (by rw [wanted_of (d := 432) rfl rfl dj]; rfl) (.bool true) (by simp [go_sem, e433]) (BR.refl _) ?_
                      exact congrArg (fun v => [v]) (slotOf_same act 434 _ (by omega))
                    | 23, ho, hD =>
                      cases ho
                      have e432 := slot_tmps (List.cons.inj (hD 20 (by decide))).1
                      have e434 := slot_tmps (List.cons.inj (hD 22 (by decide))).1
                      refine rgw_val (wanted_none rfl) (.bool true) (by simp [go_sem, e432, e434]) (BR.refl _) ?_
                      exact congrArg (fun v => [v]) (slotOf_same act 435 _ (by omega))
                    | 24, ho, hD =>
                      cases ho
                      have e435 := slot_tmps (List.cons.inj (hD 23 (by decide))).1
                      refine rgw_val (wanted_none rfl) (.bool true) (by simp [go_sem, e435]) (BR.refl _) ?_
                      exact congrArg (fun v => [v]) (slotOf_same act 436 _ (by omega))
                    | 25, ho, hD =>
                      cases ho
                      have dj : slotOf act 436 = .bool true := (List.cons.inj (hD 24 (by decide))).1
                      have e26 := slot_tmps (show slotOf act 26 = i64 0 from hF.slot 26 (by kernel_rfl))
                      refine rgw_val (by rw [wanted_of (d := 436) rfl rfl dj]; rfl) (i64 0) (by simp [go_sem, e26]) (BR.refl _) ?_
                      exact congrArg (fun v => [v]) (slotOf_same act 437 _ (by omega))
                    | 26, ho, hD =>
                      cases ho
                      have dj : slotOf act 436 = .bool true := (List.cons.inj (hD 24 (by decide))).1
                      have e437 := slot_tmps (List.cons.inj (hD 25 (by decide))).1
                      refine rgw_val (by rw [wanted_of (d := 436) rfl rfl dj]; rfl) (.bool true) (by simp [go_sem, e437]) (BR.refl _) ?_
                      exact congrArg (fun v => [v]) (slotOf_same act 438 _ (by omega))
                    | 27, ho, hD =>
                      cases ho
                      have e436 := slot_tmps (List.cons.inj (hD 24 (by decide))).1
                      have e438 := slot_tmps (List.cons.inj (hD 26 (by decide))).1
                      refine rgw_val (wanted_none rfl) (.bool true) (by simp [go_sem, e436, e438]) (BR.refl _) ?_
                      exact congrArg (fun v => [v]) (slotOf_same act 439 _ (by omega))
                    | 28, ho, hD =>
                      cases ho
                      have e439 := slot_tmps (List.cons.inj (hD 27 (by decide))).1
                      refine rgw_val (wanted_none rfl) (.bool true) (by simp [go_sem, e439]) (BR.refl _) ?_
                      exact congrArg (fun v => [v]) (slotOf_same act 440 _ (by omega))
                    | 29, ho, hD =>
                      cases ho
                      have dj : slotOf act 440 = .bool true := (List.cons.inj (hD 28 (by decide))).1
                      have e46 := slot_tmps (show slotOf act 46 = i64 1 from hF.slot 46 (by kernel_rfl))
                      refine rgw_val (by rw [wanted_of (d := 440) rfl rfl dj]; rfl) (i64 1) (by simp [go_sem, e46]) (BR.refl _) ?_
                      exact congrArg (fun v => [v]) (slotOf_same act 441 _ (by omega))
                    | 30, ho, hD =>
                      cases ho
                      have dj : slotOf act 440 = .bool true := (List.cons.inj (hD 28 (by decide))).1
                      have e441 := slot_tmps (List.cons.inj (hD 29 (by decide))).1
                      refine rgw_val (by rw [wanted_of (d := 440) rfl rfl dj]; rfl) (.bool true) (by simp [go_sem, e441]) (BR.refl _) ?_
                      exact congrArg (fun v => [v]) (slotOf_same act 442 _ (by omega))
                    | 31, ho, hD =>
                      cases ho
                      have e440 := slot_tmps (List.cons.inj (hD 28 (by decide))).1
                      have e442 := slot_tmps (List.cons.inj (hD 30 (by decide))).1
                      refine rgw_val (wanted_none rfl) (.bool true) (by simp [go_sem, e440, e442]) (BR.refl _) ?_
                      exact congrArg (fun v => [v]) (slotOf_same act 443 _ (by omega))
                    | 32, ho, hD =>
                      cases ho
                      have e443 := slot_tmps (List.cons.inj (hD 31 (by decide))).1
                      refine rgw_val (wanted_none rfl) (.bool true) (by simp [go_sem, e443]) (BR.refl _) ?_
                      exact congrArg (fun v => [v]) (slotOf_same act 444 _ (by omega))
                    | 33, ho, hD =>
                      cases ho
                      have dj : slotOf act 444 = .bool true := (List.cons.inj (hD 32 (by decide))).1
                      have e28 := slot_tmps (show slotOf act 28 = i64 0 from hF.slot 28 (by kernel_rfl))
                      refine rgw_val (by rw [wanted_of (d := 444) rfl rfl dj]; rfl) (i64 0) (by simp [go_sem, e28]) (BR.refl _) ?_
                      exact congrArg (fun v => [v]) (slotOf_same act 445 _ (by omega))
                    | 34, ho, hD =>
                      cases ho
                      have dj : slotOf act 444 = .bool true := (List.cons.inj (hD 32 (by decide))).1
                      have e445 := slot_tmps (List.cons.inj (hD 33 (by decide))).1
                      refine rgw_val (by rw [wanted_of (d := 444) rfl rfl dj]; rfl) (.bool true) (by simp [go_sem, e445]) (BR.refl _) ?_
                      exact congrArg (fun v => [v]) (slotOf_same act 446 _ (by omega))
                    | 35, ho, hD =>
                      cases ho
                      have e444 := slot_tmps (List.cons.inj (hD 32 (by decide))).1
                      have e446 := slot_tmps (List.cons.inj (hD 34 (by decide))).1
                      refine rgw_val (wanted_none rfl) (.bool true) (by simp [go_sem, e444, e446]) (BR.refl _) ?_
                      exact congrArg (fun v => [v]) (slotOf_same act 447 _ (by omega))
                    | 36, ho, hD =>
                      cases ho
                      have e447 := slot_tmps (List.cons.inj (hD 35 (by decide))).1
                      refine rgw_val (wanted_none rfl) (.bool true) (by simp [go_sem, e447]) (BR.refl _) ?_
                      exact congrArg (fun v => [v]) (slotOf_same act 448 _ (by omega))
                    | 37, ho, hD =>
                      cases ho
                      have dj : slotOf act 448 = .bool true := (List.cons.inj (hD 36 (by decide))).1
                      have e47 := slot_tmps (show slotOf act 47 = i64 2 from hF.slot 47 (by kernel_rfl))
                      refine rgw_val (by rw [wanted_of (d := 448) rfl rfl dj]; rfl) (i64 2) (by simp [go_sem, e47]) (BR.refl _) ?_
                      exact congrArg (fun v => [v]) (slotOf_same act 449 _ (by omega))
                    | 38, ho, hD =>
                      cases ho
                      have dj : slotOf act 448 = .bool true := (List.cons.inj (hD 36 (by decide))).1
                      have e449 := slot_tmps (List.cons.inj (hD 37 (by decide))).1
                      refine rgw_val (by rw [wanted_of (d := 448) rfl rfl dj]; rfl) (.bool true) (by simp [go_sem, e449]) (BR.refl _) ?_
                      exact congrArg (fun v => [v]) (slotOf_same act 450 _ (by omega))
                    | 39, ho, hD =>
                      cases ho
                      have e448 := slot_tmps (List.cons.inj (hD 36 (by decide))).1
                      have e450 := slot_tmps (List.cons.inj (hD 38 (by decide))).1
                      refine rgw_val (wanted_none rfl) (.bool true) (by simp [go_sem, e448, e450]) (BR.refl _) ?_
                      exact congrArg (fun v => [v]) (slotOf_same act 451 _ (by omega))
                    | 40, ho, hD =>
                      cases ho
                      have e451 := slot_tmps (List.cons.inj (hD 39 (by decide))).1
                      refine rgw_val (wanted_none rfl) (.bool true) (by simp [go_sem, e451]) (BR.refl _) ?_
                      exact congrArg (fun v => [v]) (slotOf_same act 452 _ (by omega))
                    | 41, ho, hD =>
                      cases ho
                      have dj : slotOf act 452 = .bool true := (List.cons.inj (hD 40 (by decide))).1
                      have e30 := slot_tmps (show slotOf act 30 = i64 0 from hF.slot 30 (by kernel_rfl))
                      refine rgw_val (by rw [wanted_of (d := 452) rfl rfl dj]; rfl) (i64 0) (by simp [go_sem, e30]) (BR.refl _) ?_
                      exact congrArg (fun v => [v]) (slotOf_same act 453 _ (by omega))
                    | 42, ho, hD =>
                      cases ho
                      have dj : slotOf act 452 = .bool true := (List.cons.inj (hD 40 (by decide))).1
                      have e453 := slot_tmps (List.cons.inj (hD 41 (by decide))).1
                      refine rgw_val (by rw [wanted_of (d := 452) rfl rfl dj]; rfl) (.bool true) (by simp [go_sem, e453]) (BR.refl _) ?_
                      exact congrArg (fun v => [v]) (slotOf_same act 454 _ (by omega))
                    | 43, ho, hD =>
                      cases ho
                      have e452 := slot_tmps (List.cons.inj (hD 40 (by decide))).1
                      have e454 := slot_tmps (List.cons.inj (hD 42 (by decide))).1
                      refine rgw_val (wanted_none rfl) (.bool true) (by simp [go_sem, e452, e454]) (BR.refl _) ?_
                      exact congrArg (fun v => [v]) (slotOf_same act 455 _ (by omega))
                    | 44, ho, hD =>
                      cases ho
                      have e455 := slot_tmps (List.cons.inj (hD 43 (by decide))).1
                      refine rgw_val (wanted_none rfl) (.bool true) (by simp [go_sem, e455]) (BR.refl _) ?_
                      exact congrArg (fun v => [v]) (slotOf_same act 456 _ (by omega))
                    | 45, ho, hD =>
                      cases ho
                      have dj : slotOf act 456 = .bool true := (List.cons.inj (hD 44 (by decide))).1
                      have e48 := slot_tmps (show slotOf act 48 = l1 from hF.slot 48 (by kernel_rfl))
                      refine rgw_val (by rw [wanted_of (d := 456) rfl rfl dj]; rfl) (l1) (by simp [go_sem, e48]) (BR.refl _) ?_
                      exact congrArg (fun v => [v]) (slotOf_same act 457 _ (by omega))
                    | 46, ho, hD =>
                      cases ho
                      have dj : slotOf act 456 = .bool true := (List.cons.inj (hD 44 (by decide))).1
                      refine rgw_wp (by rw [wanted_of (d := 456) rfl rfl dj]; rfl) rfl ?_
                      refine wp_of_run (v := .slice (some ⟨wA.heap.size, 0, none⟩) 2 2) (w' := wA.alloc (.cells #[i64 1, i64 3] 3)) (by simp [go_sem]) ?_
                      exact ⟨_, rfl, (Below.refl _ _).alloc (Nat.le_refl _) _, _, congrArg (fun v => [v]) (slotOf_same act 458 _ (by omega)), heap_alloc_new _ _⟩
                    | 47, ho, hD =>
                      cases ho
                      have dj : slotOf act 456 = .bool true := (List.cons.inj (hD 44 (by decide))).1
                      have e457 := slot_tmps (List.cons.inj (hD 45 (by decide))).1
                      obtain ⟨gg, dg, hgg⟩ := hD 46 (by decide)
                      have e458 := slot_tmps (List.cons.inj dg).1
                      refine rgw_call (by rw [wanted_of (d := 456) rfl rfl dj]; rfl) 50 #[l1, .slice (some ⟨gg, 0, none⟩) 2 2] (by simp [go_sem, e457, e458]) rfl ?_
                      refine (alike_v (hL1Z.below hR) (listV2 hgg)).mono ?_
                      rintro e wB ⟨rfl, hb⟩
                      rw [beq_self_eq_true]
                      exact ⟨_, rfl, hb, congrArg (fun v => [v]) (slotOf_same act 459 _ (by omega))⟩
                    | 48, ho, hD =>
                      cases ho
                      have e456 := slot_tmps (List.cons.inj (hD 44 (by decide))).1
                      have e459 := slot_tmps (List.cons.inj (hD 47 (by decide))).1
                      refine rgw_val (wanted_none rfl) (.bool true) (by simp [go_sem, e456, e459]) (BR.refl _) ?_
                      exact congrArg (fun v => [v]) (slotOf_same act 460 _ (by omega))
                    | 49, ho, hD =>
                      cases ho
                      have e460 := slot_tmps (List.cons.inj (hD 48 (by decide))).1
                      refine rgw_val (wanted_none rfl) (.bool true) (by simp [go_sem, e460]) (BR.refl _) ?_
                      exact congrArg (fun v => [v]) (slotOf_same act 461 _ (by omega))
                    | 50, ho, hD =>
                      cases ho
                      have dj : slotOf act 461 = .bool true := (List.cons.inj (hD 49 (by decide))).1
                      have e32 := slot_tmps (show slotOf act 32 = i64 0 from hF.slot 32 (by kernel_rfl))
                      refine rgw_val (by rw [wanted_of (d := 461) rfl rfl dj]; rfl) (i64 0) (by simp [go_sem, e32]) (BR.refl _) ?_
                      exact congrArg (fun v => [v]) (slotOf_same act 462 _ (by omega))
                    | 51, ho, hD =>
                      cases ho
                      have dj : slotOf act 461 = .bool true := (List.cons.inj (hD 49 (by decide))).1
                      have e462 := slot_tmps (List.cons.inj (hD 50 (by decide))).1
                      refine rgw_val (by rw [wanted_of (d := 461) rfl rfl dj]; rfl) (.bool true) (by simp [go_sem, e462]) (BR.refl _) ?_
                      exact congrArg (fun v => [v]) (slotOf_same act 463 _ (by omega))
                    | 52, ho, hD =>
                      cases ho
                      have e461 := slot_tmps (List.cons.inj (hD 49 (by decide))).1
                      have e463 := slot_tmps (List.cons.inj (hD 51 (by decide))).1
                      refine rgw_val (wanted_none rfl) (.bool true) (by simp [go_sem, e461, e463]) (BR.refl _) ?_
                      exact congrArg (fun v => [v]) (slotOf_same act 464 _ (by omega))
                    | 53, ho, hD =>
                      cases ho
                      have e464 := slot_tmps (List.cons.inj (hD 52 (by decide))).1
                      refine rgw_val (wanted_none rfl) (.bool true) (by simp [go_sem, e464]) (BR.refl _) ?_
                      exact congrArg (fun v => [v]) (slotOf_same act 465 _ (by omega))
                    | 54, ho, hD =>
                      cases ho
                      have dj : slotOf act 465 = .bool true := (List.cons.inj (hD 53 (by decide))).1
                      have e49 := slot_tmps (show slotOf act 49 = l2 from hF.slot 49 (by kernel_rfl))
                      refine rgw_val (by rw [wanted_of (d := 465) rfl rfl dj]; rfl) (l2) (by simp [go_sem, e49]) (BR.refl _) ?_
                      exact congrArg (fun v => [v]) (slotOf_same act 466 _ (by omega))
                    | 55, ho, hD =>
                      cases ho
                      have dj : slotOf act 465 = .bool true := (List.cons.inj (hD 53 (by decide))).1
                      refine rgw_wp (by rw [wanted_of (d := 465) rfl rfl dj]; rfl) rfl ?_
                      refine wp_of_run (v := .slice (some ⟨wA.heap.size, 0, none⟩) 2 2) (w' := wA.alloc (.cells #[i64 1, i64 3] 3)) (by simp [go_sem]) ?_
                      exact ⟨_, rfl, (Below.refl _ _).alloc (Nat.le_refl _) _, _, congrArg (fun v => [v]) (slotOf_same act 467 _ (by omega)), heap_alloc_new _ _⟩
                    | 56, ho, hD =>
                      cases ho
                      have dj : slotOf act 465 = .bool true := (List.cons.inj (hD 53 (by decide))).1
                      have e466 := slot_tmps (List.cons.inj (hD 54 (by decide))).1
                      obtain ⟨gg, dg, hgg⟩ := hD 55 (by decide)
                      have e467 := slot_tmps (List.cons.inj dg).1
                      refine rgw_call (by rw [wanted_of (d := 465) rfl rfl dj]; rfl) 50 #[l2, .slice (some ⟨gg, 0, none⟩) 2 2] (by simp [go_sem, e466, e467]) rfl ?_
                      refine (alike_v (hL2Z.below hR) (listV2 hgg)).mono ?_
                      rintro e wB ⟨rfl, hb⟩
                      rw [beq_self_eq_true]
                      exact ⟨_, rfl, hb, congrArg (fun v => [v]) (slotOf_same act 468 _ (by omega))⟩
                    | 57, ho, hD =>
                      cases ho
                      have e465 := slot_tmps (List.cons.inj (hD 53 (by decide))).1
                      have e468 := slot_tmps (List.cons.inj (hD 56 (by decide))).1
                      refine rgw_val (wanted_none rfl) (.bool true) (by simp [go_sem, e465, e468]) (BR.refl _) ?_
                      exact congrArg (fun v => [v]) (slotOf_same act 469 _ (by omega))
                    | 58, ho, hD =>
                      cases ho
                      have e469 := slot_tmps (List.cons.inj (hD 57 (by decide))).1
                      refine rgw_val (wanted_none rfl) (.bool true) (by simp [go_sem, e469]) (BR.refl _) ?_
                      exact congrArg (fun v => [v]) (slotOf_same act 470 _ (by omega))
                    | 59, ho, hD =>
                      cases ho
                      have dj : slotOf act 470 = .bool true := (List.cons.inj (hD 58 (by decide))).1
                      have e34 := slot_tmps (show slotOf act 34 = i64 0 from hF.slot 34 (by kernel_rfl))
                      refine rgw_val (by rw [wanted_of (d := 470) rfl rfl dj]; rfl) (i64 0) (by simp [go_sem, e34]) (BR.refl _) ?_
                      exact congrArg (fun v => [v]) (slotOf_same act 471 _ (by omega))
                    | 60, ho, hD =>
                      cases ho
                      have dj : slotOf act 470 = .bool true := (List.cons.inj (hD 58 (by decide))).1
                      have e471 := slot_tmps (List.cons.inj (hD 59 (by decide))).1
                      refine rgw_val (by rw [wanted_of (d := 470) rfl rfl dj]; rfl) (.bool true) (by simp [go_sem, e471]) (BR.refl _) ?_
                      exact congrArg (fun v => [v]) (slotOf_same act 472 _ (by omega))
                    | 61, ho, hD =>
                      cases ho
                      have e470 := slot_tmps (List.cons.inj (hD 58 (by decide))).1
                      have e472 := slot_tmps (List.cons.inj (hD 60 (by decide))).1
                      refine rgw_val (wanted_none rfl) (.bool true) (by simp [go_sem, e470, e472]) (BR.refl _) ?_
                      exact congrArg (fun v => [v]) (slotOf_same act 473 _ (by omega))
                    | 62, ho, hD =>
                      cases ho
                      have e473 := slot_tmps (List.cons.inj (hD 61 (by decide))).1
                      refine rgw_val (wanted_none rfl) (.bool true) (by simp [go_sem, e473]) (BR.refl _) ?_
                      exact congrArg (fun v => [v]) (slotOf_same act 474 _ (by omega))
                    | 63, ho, hD =>
                      cases ho
                      have dj : slotOf act 474 = .bool true := (List.cons.inj (hD 62 (by decide))).1
                      have e50 := slot_tmps (show slotOf act 50 = .bool false from hF.slot 50 (by kernel_rfl))
                      refine rgw_val (by rw [wanted_of (d := 474) rfl rfl dj]; rfl) (.bool false) (by simp [go_sem, e50]) (BR.refl _) ?_
                      exact congrArg (fun v => [v]) (slotOf_same act 475 _ (by omega))
                    | 64, ho, hD =>
                      cases ho
                      have dj : slotOf act 474 = .bool true := (List.cons.inj (hD 62 (by decide))).1
                      have e475 := slot_tmps (List.cons.inj (hD 63 (by decide))).1
                      refine rgw_val (by rw [wanted_of (d := 474) rfl rfl dj]; rfl) (.bool true) (by simp [go_sem, e475]) (BR.refl _) ?_
                      exact congrArg (fun v => [v]) (slotOf_same act 476 _ (by omega))
                    | 65, ho, hD =>
                      cases ho
                      have e474 := slot_tmps (List.cons.inj (hD 62 (by decide))).1
                      have e476 := slot_tmps (List.cons.inj (hD 64 (by decide))).1
                      refine rgw_val (wanted_none rfl) (.bool true) (by simp [go_sem, e474, e476]) (BR.refl _) ?_
                      exact congrArg (fun v => [v]) (slotOf_same act 477 _ (by omega))
                    | 66, ho, hD =>
                      cases ho
                      have e477 := slot_tmps (List.cons.inj (hD 65 (by decide))).1
                      refine rgw_val (wanted_none rfl) (.bool true) (by simp [go_sem, e477]) (BR.refl _) ?_
                      exact congrArg (fun v => [v]) (slotOf_same act 478 _ (by omega))
                    | 67, ho, hD =>
                      cases ho
                      have dj : slotOf act 478 = .bool true := (List.cons.inj (hD 66 (by decide))).1
                      have e36 := slot_tmps (show slotOf act 36 = i64 0 from hF.slot 36 (by kernel_rfl))
                      refine rgw_val (by rw [wanted_of (d := 478) rfl rfl dj]; rfl) (i64 0) (by simp [go_sem, e36]) (BR.refl _) ?_
                      exact congrArg (fun v => [v]) (slotOf_same act 479 _ (by omega))
                    | 68, ho, hD =>
                      cases ho
                      have dj : slotOf act 478 = .bool true := (List.cons.inj (hD 66 (by decide))).1
                      have e479 := slot_tmps (List.cons.inj (hD 67 (by decide))).1
                      refine rgw_val (by rw [wanted_of (d := 478) rfl rfl dj]; rfl) (.bool true) (by simp [go_sem, e479]) (BR.refl _) ?_
                      exact congrArg (fun v => [v]) (slotOf_same act 480 _ (by omega))
                    | 69, ho, hD =>
                      cases ho
                      have e478 := slot_tmps (List.cons.inj (hD 66 (by decide))).1
                      have e480 := slot_tmps (List.cons.inj (hD 68 (by decide))).1
                      refine rgw_val (wanted_none rfl) (.bool true) (by simp [go_sem, e478, e480]) (BR.refl _) ?_
                      exact congrArg (fun v => [v]) (slotOf_same act 481 _ (by omega))
                    | 70, ho, hD =>
                      cases ho
                      have e481 := slot_tmps (List.cons.inj (hD 69 (by decide))).1
                      refine rgw_val (wanted_none rfl) (.bool true) (by simp [go_sem, e481]) (BR.refl _) ?_
                      exact congrArg (fun v => [v]) (slotOf_same act 482 _ (by omega))
                    | 71, ho, hD =>
                      cases ho
                      have dj : slotOf act 482 = .bool true := (List.cons.inj (hD 70 (by decide))).1
                      have e51 := slot_tmps (show slotOf act 51 = .slice wa 0 wc from hF.slot 51 (by kernel_rfl))
                      refine rgw_val (by rw [wanted_of (d := 482) rfl rfl dj]; rfl) (.slice wa 0 wc) (by simp [go_sem, e51]) (BR.refl _) ?_
                      exact congrArg (fun v => [v]) (slotOf_same act 483 _ (by omega))
                    | 72, ho, hD =>
                      cases ho
                      have dj : slotOf act 482 = .bool true := (List.cons.inj (hD 70 (by decide))).1
                      have e483 := slot_tmps (List.cons.inj (hD 71 (by decide))).1
                      refine rgw_val (by rw [wanted_of (d := 482) rfl rfl dj]; rfl) (i64 0) (by simp [go_sem, e483]) (BR.refl _) ?_
                      exact congrArg (fun v => [v]) (slotOf_same act 484 _ (by omega))
                    | 73, ho, hD =>
                      cases ho
                      have dj : slotOf act 482 = .bool true := (List.cons.inj (hD 70 (by decide))).1
                      have e484 := slot_tmps (List.cons.inj (hD 72 (by decide))).1
                      refine rgw_val (by rw [wanted_of (d := 482) rfl rfl dj]; rfl) (.bool true) (by simp [go_sem, e484]) (BR.refl _) ?_
                      exact congrArg (fun v => [v]) (slotOf_same act 485 _ (by omega))
                    | 74, ho, hD =>
                      cases ho
                      have e482 := slot_tmps (List.cons.inj (hD 70 (by decide))).1
                      have e485 := slot_tmps (List.cons.inj (hD 73 (by decide))).1
                      refine rgw_val (wanted_none rfl) (.bool true) (by simp [go_sem, e482, e485]) (BR.refl _) ?_
                      exact congrArg (fun v => [v]) (slotOf_same act 486 _ (by omega))
                    | 75, ho, hD =>
                      cases ho
                      have e486 := slot_tmps (List.cons.inj (hD 74 (by decide))).1
                      refine rgw_val (wanted_none rfl) (.bool true) (by simp [go_sem, e486]) (BR.refl _) ?_
                      exact congrArg (fun v => [v]) (slotOf_same act 487 _ (by omega))
                    | 76, ho, hD =>
                      cases ho
                      have dj : slotOf act 487 = .bool true := (List.cons.inj (hD 75 (by decide))).1
                      have e38 := slot_tmps (show slotOf act 38 = i64 4 from hF.slot 38 (by kernel_rfl))
                      refine rgw_val (by rw [wanted_of (d := 487) rfl rfl dj]; rfl) (i64 4) (by simp [go_sem, e38]) (BR.refl _) ?_
                      exact congrArg (fun v => [v]) (slotOf_same act 488 _ (by omega))
                    | 77, ho, hD =>
                      cases ho
                      have dj : slotOf act 487 = .bool true := (List.cons.inj (hD 75 (by decide))).1
                      have e488 := slot_tmps (List.cons.inj (hD 76 (by decide))).1
                      refine rgw_val (by rw [wanted_of (d := 487) rfl rfl dj]; rfl) (.bool true) (by simp [go_sem, e488]) (BR.refl _) ?_
                      exact congrArg (fun v => [v]) (slotOf_same act 489 _ (by omega))
                    | 78, ho, hD =>
                      cases ho
                      have e487 := slot_tmps (List.cons.inj (hD 75 (by decide))).1
                      have e489 := slot_tmps (List.cons.inj (hD 77 (by decide))).1
                      refine rgw_val (wanted_none rfl) (.bool true) (by simp [go_sem, e487, e489]) (BR.refl _) ?_
                      exact congrArg (fun v => [v]) (slotOf_same act 490 _ (by omega))
                    | 79, ho, hD =>
                      cases ho
                      have e490 := slot_tmps (List.cons.inj (hD 78 (by decide))).1
                      refine rgw_val (wanted_none rfl) (.bool true) (by simp [go_sem, e490]) (BR.refl _) ?_
                      exact congrArg (fun v => [v]) (slotOf_same act 491 _ (by omega))
                    | 80, ho, hD =>
                      cases ho
                      have e491 := slot_tmps (List.cons.inj (hD 79 (by decide))).1
                      refine rgw_val (wanted_none rfl) (.bool true) (by simp [go_sem, e491]) (BR.refl _) ?_
                      exact congrArg (fun v => [v]) (slotOf_same act 492 _ (by omega))
                    | 81, ho, hD =>
                      cases ho
                      have e492 := slot_tmps (List.cons.inj (hD 80 (by decide))).1
                      refine rgw_val (wanted_none rfl) (.bool true) (by simp [go_sem, e492]) (BR.refl _) ?_
                      exact congrArg (fun v => [v]) (slotOf_same act 493 _ (by omega))
                    | 82, ho, hD =>
                      cases ho
                      have dj : slotOf act 493 = .bool true := (List.cons.inj (hD 81 (by decide))).1
                      refine rgw_call (by rw [wanted_of (d := 493) rfl rfl dj]; rfl) 18 #[] (by simp [go_sem]) rfl ?_
                      refine (moored_any _ (hGZ.below hR)).mono ?_
                      rintro e wB ⟨rfl, hb⟩
                      exact ⟨_, rfl, hb, congrArg (fun v => [v]) (slotOf_same act 494 _ (by omega))⟩
                    | 83, ho, hD =>
                      cases ho
                      have e493 := slot_tmps (List.cons.inj (hD 81 (by decide))).1
                      have e494 := slot_tmps (List.cons.inj (hD 82 (by decide))).1
                      refine rgw_val (wanted_none rfl) (.bool true) (by simp [go_sem, e493, e494]) (BR.refl _) ?_
                      exact congrArg (fun v => [v]) (slotOf_same act 495 _ (by omega))
                    | 84, ho, hD =>
                      cases ho
                      have e495 := slot_tmps (List.cons.inj (hD 83 (by decide))).1
                      refine rgw_val (wanted_none rfl) (.bool true) (by simp [go_sem, e495]) (BR.refl _) ?_
                      exact congrArg (fun v => [v]) (slotOf_same act 0 _ (by omega))
                    | _ + 85, ho, _ => cases ho
                  · intro act wA hR hF hA
                    have f20 : slotOf act 20 = i64 0 := hF.slot 20 (by kernel_rfl)
                    have f22 : slotOf act 22 = i64 0 := hF.slot 22 (by kernel_rfl)
                    have f24 : slotOf act 24 = i64 0 := hF.slot 24 (by kernel_rfl)
                    have f26 : slotOf act 26 = i64 0 := hF.slot 26 (by kernel_rfl)
                    have f28 : slotOf act 28 = i64 0 := hF.slot 28 (by kernel_rfl)
                    have f30 : slotOf act 30 = i64 0 := hF.slot 30 (by kernel_rfl)
                    have f32 : slotOf act 32 = i64 0 := hF.slot 32 (by kernel_rfl)
                    have f34 : slotOf act 34 = i64 0 := hF.slot 34 (by kernel_rfl)
                    have f36 : slotOf act 36 = i64 0 := hF.slot 36 (by kernel_rfl)
                    have f38 : slotOf act 38 = i64 4 := hF.slot 38 (by kernel_rfl)
                    have f43 : slotOf act 43 = .pointer (some ⟨p, 0, none⟩) := hF.slot 43 (by kernel_rfl)
                    have f44 : slotOf act 44 = .pointer (some ⟨q, 0, none⟩) := hF.slot 44 (by kernel_rfl)
                    have f45 : slotOf act 45 = i64 40 := hF.slot 45 (by kernel_rfl)
                    have f46 : slotOf act 46 = i64 1 := hF.slot 46 (by kernel_rfl)
                    have f47 : slotOf act 47 = i64 2 := hF.slot 47 (by kernel_rfl)
                    have f48 : slotOf act 48 = l1 := hF.slot 48 (by kernel_rfl)
                    have f49 : slotOf act 49 = l2 := hF.slot 49 (by kernel_rfl)
                    have f50 : slotOf act 50 = .bool false := hF.slot 50 (by kernel_rfl)
                    have f51 : slotOf act 51 = .slice wa 0 wc := hF.slot 51 (by kernel_rfl)
                    have f0 : slotOf act 0 = .bool true := (List.cons.inj (hA 84 (by decide))).1
                    have f412 : slotOf act 412 = i64 0 := (List.cons.inj (hA 0 (by decide))).1
                    have f413 : slotOf act 413 = .bool true := (List.cons.inj (hA 1 (by decide))).1
                    have f414 : slotOf act 414 = .bool true := (List.cons.inj (hA 2 (by decide))).1
                    have f415 : slotOf act 415 = .agg #[i64 10, i64 12] := (List.cons.inj (hA 3 (by decide))).1
                    have f416 : slotOf act 416 = .agg #[i64 10, i64 12] := (List.cons.inj (hA 4 (by decide))).1
                    have f417 : slotOf act 417 = .bool true := (List.cons.inj (hA 5 (by decide))).1
                    have f418 : slotOf act 418 = .bool true := (List.cons.inj (hA 6 (by decide))).1
                    have f419 : slotOf act 419 = .bool true := (List.cons.inj (hA 7 (by decide))).1
                    have f420 : slotOf act 420 = i64 0 := (List.cons.inj (hA 8 (by decide))).1
                    have f421 : slotOf act 421 = .bool true := (List.cons.inj (hA 9 (by decide))).1
                    have f422 : slotOf act 422 = .bool true := (List.cons.inj (hA 10 (by decide))).1
                    have f423 : slotOf act 423 = .bool true := (List.cons.inj (hA 11 (by decide))).1
                    have f424 : slotOf act 424 = .agg #[i64 2, i64 2] := (List.cons.inj (hA 12 (by decide))).1
                    have f425 : slotOf act 425 = .agg #[i64 2, i64 2] := (List.cons.inj (hA 13 (by decide))).1
                    have f426 : slotOf act 426 = .bool true := (List.cons.inj (hA 14 (by decide))).1
                    have f427 : slotOf act 427 = .bool true := (List.cons.inj (hA 15 (by decide))).1
                    have f428 : slotOf act 428 = .bool true := (List.cons.inj (hA 16 (by decide))).1
                    have f429 : slotOf act 429 = i64 0 := (List.cons.inj (hA 17 (by decide))).1
                    have f430 : slotOf act 430 = .bool true := (List.cons.inj (hA 18 (by decide))).1
                    have f431 : slotOf act 431 = .bool true := (List.cons.inj (hA 19 (by decide))).1
                    have f432 : slotOf act 432 = .bool true := (List.cons.inj (hA 20 (by decide))).1
                    have f433 : slotOf act 433 = i64 40 := (List.cons.inj (hA 21 (by decide))).1
                    have f434 : slotOf act 434 = .bool true := (List.cons.inj (hA 22 (by decide))).1
                    have f435 : slotOf act 435 = .bool true := (List.cons.inj (hA 23 (by decide))).1
                    have f436 : slotOf act 436 = .bool true := (List.cons.inj (hA 24 (by decide))).1
                    have f437 : slotOf act 437 = i64 0 := (List.cons.inj (hA 25 (by decide))).1
                    have f438 : slotOf act 438 = .bool true := (List.cons.inj (hA 26 (by decide))).1
                    have f439 : slotOf act 439 = .bool true := (List.cons.inj (hA 27 (by decide))).1
                    have f440 : slotOf act 440 = .bool true := (List.cons.inj (hA 28 (by decide))).1
                    have f441 : slotOf act 441 = i64 1 := (List.cons.inj (hA 29 (by decide))).1
                    have f442 : slotOf act 442 = .bool true := (List.cons.inj (hA 30 (by decide))).1
                    have f443 : slotOf act 443 = .bool true := (List.cons.inj (hA 31 (by decide))).1
                    have f444 : slotOf act 444 = .bool true := (List.cons.inj (hA 32 (by decide))).1
                    have f445 : slotOf act 445 = i64 0 := (List.cons.inj (hA 33 (by decide))).1
                    have f446 : slotOf act 446 = .bool true := (List.cons.inj (hA 34 (by decide))).1
                    have f447 : slotOf act 447 = .bool true := (List.cons.inj (hA 35 (by decide))).1
                    have f448 : slotOf act 448 = .bool true := (List.cons.inj (hA 36 (by decide))).1
                    have f449 : slotOf act 449 = i64 2 := (List.cons.inj (hA 37 (by decide))).1
                    have f450 : slotOf act 450 = .bool true := (List.cons.inj (hA 38 (by decide))).1
                    have f451 : slotOf act 451 = .bool true := (List.cons.inj (hA 39 (by decide))).1
                    have f452 : slotOf act 452 = .bool true := (List.cons.inj (hA 40 (by decide))).1
                    have f453 : slotOf act 453 = i64 0 := (List.cons.inj (hA 41 (by decide))).1
                    have f454 : slotOf act 454 = .bool true := (List.cons.inj (hA 42 (by decide))).1
                    have f455 : slotOf act 455 = .bool true := (List.cons.inj (hA 43 (by decide))).1
                    have f456 : slotOf act 456 = .bool true := (List.cons.inj (hA 44 (by decide))).1
                    have f457 : slotOf act 457 = l1 := (List.cons.inj (hA 45 (by decide))).1
                    have f459 : slotOf act 459 = .bool true := (List.cons.inj (hA 47 (by decide))).1
                    have f460 : slotOf act 460 = .bool true := (List.cons.inj (hA 48 (by decide))).1
                    have f461 : slotOf act 461 = .bool true := (List.cons.inj (hA 49 (by decide))).1
                    have f462 : slotOf act 462 = i64 0 := (List.cons.inj (hA 50 (by decide))).1
                    have f463 : slotOf act 463 = .bool true := (List.cons.inj (hA 51 (by decide))).1
                    have f464 : slotOf act 464 = .bool true := (List.cons.inj (hA 52 (by decide))).1
                    have f465 : slotOf act 465 = .bool true := (List.cons.inj (hA 53 (by decide))).1
                    have f466 : slotOf act 466 = l2 := (List.cons.inj (hA 54 (by decide))).1
                    have f468 : slotOf act 468 = .bool true := (List.cons.inj (hA 56 (by decide))).1
                    have f469 : slotOf act 469 = .bool true := (List.cons.inj (hA 57 (by decide))).1
                    have f470 : slotOf act 470 = .bool true := (List.cons.inj (hA 58 (by decide))).1
                    have f471 : slotOf act 471 = i64 0 := (List.cons.inj (hA 59 (by decide))).1
                    have f472 : slotOf act 472 = .bool true := (List.cons.inj (hA 60 (by decide))).1
                    have f473 : slotOf act 473 = .bool true := (List.cons.inj (hA 61 (by decide))).1
                    have f474 : slotOf act 474 = .bool true := (List.cons.inj (hA 62 (by decide))).1
                    have f475 : slotOf act 475 = .bool false := (List.cons.inj (hA 63 (by decide))).1
                    have f476 : slotOf act 476 = .bool true := (List.cons.inj (hA 64 (by decide))).1
                    have f477 : slotOf act 477 = .bool true := (List.cons.inj (hA 65 (by decide))).1
                    have f478 : slotOf act 478 = .bool true := (List.cons.inj (hA 66 (by decide))).1
                    have f479 : slotOf act 479 = i64 0 := (List.cons.inj (hA 67 (by decide))).1
                    have f480 : slotOf act 480 = .bool true := (List.cons.inj (hA 68 (by decide))).1
                    have f481 : slotOf act 481 = .bool true := (List.cons.inj (hA 69 (by decide))).1
                    have f482 : slotOf act 482 = .bool true := (List.cons.inj (hA 70 (by decide))).1
                    have f483 : slotOf act 483 = .slice wa 0 wc := (List.cons.inj (hA 71 (by decide))).1
                    have f484 : slotOf act 484 = i64 0 := (List.cons.inj (hA 72 (by decide))).1
                    have f485 : slotOf act 485 = .bool true := (List.cons.inj (hA 73 (by decide))).1
                    have f486 : slotOf act 486 = .bool true := (List.cons.inj (hA 74 (by decide))).1
                    have f487 : slotOf act 487 = .bool true := (List.cons.inj (hA 75 (by decide))).1
                    have f488 : slotOf act 488 = i64 4 := (List.cons.inj (hA 76 (by decide))).1
                    have f489 : slotOf act 489 = .bool true := (List.cons.inj (hA 77 (by decide))).1
                    have f490 : slotOf act 490 = .bool true := (List.cons.inj (hA 78 (by decide))).1
                    have f491 : slotOf act 491 = .bool true := (List.cons.inj (hA 79 (by decide))).1
                    have f492 : slotOf act 492 = .bool true := (List.cons.inj (hA 80 (by decide))).1
                    have f493 : slotOf act 493 = .bool true := (List.cons.inj (hA 81 (by decide))).1
                    have f494 : slotOf act 494 = .bool true := (List.cons.inj (hA 82 (by decide))).1
                    have f495 : slotOf act 495 = .bool true := (List.cons.inj (hA 83 (by decide))).1
                    rw [act_eta act 496 hF.size hF.defers]
                    simp only [show List.range 496 = [0, 1, 2, 3, 4, 5, 6, 7, 8, 9, 10, 11, 12, 13, 14, 15, 16, 17, 18, 19, 20, 21, 22, 23, 24, 25, 26, 27, 28, 29, 30, 31, 32, 33, 34, 35, 36, 37, 38, 39, 40, 41, 42, 43, 44, 45, 46, 47, 48, 49, 50, 51, 52, 53, 54, 55, 56, 57, 58, 59, 60, 61, 62, 63, 64, 65, 66, 67, 68, 69, 70, 71, 72, 73, 74, 75, 76, 77, 78, 79, 80, 81, 82, 83, 84, 85, 86, 87, 88, 89, 90, 91, 92, 93, 94, 95, 96, 97, 98, 99, 100, 101, 102, 103, 104, 105, 106, 107, 108, 109, 110, 111, 112, 113, 114, 115, 116, 117, 118, 119, 120, 121, 122, 123, 124, 125, 126, 127, 128, 129, 130, 131, 132, 133, 134, 135, 136, 137, 138, 139, 140, 141, 142, 143, 144, 145, 146, 147, 148, 149, 150, 151, 152, 153, 154, 155, 156, 157, 158, 159, 160, 161, 162, 163, 164, 165, 166, 167, 168, 169, 170, 171, 172, 173, 174, 175, 176, 177, 178, 179, 180, 181, 182, 183, 184, 185, 186, 187, 188, 189, 190, 191, 192, 193, 194, 195, 196, 197, 198, 199, 200, 201, 202, 203, 204, 205, 206, 207, 208, 209, 210, 211, 212, 213, 214, 215, 216, 217, 218, 219, 220, 221, 222, 223, 224, 225, 226, 227, 228, 229, 230, 231, 232, 233, 234, 235, 236, 237, 238, 239, 240, 241, 242, 243, 244, 245, 246, 247, 248, 249, 250, 251, 252, 253, 254, 255, 256, 257, 258, 259, 260, 261, 262, 263, 264, 265, 266, 267, 268, 269, 270, 271, 272, 273, 274, 275, 276, 277, 278, 279, 280, 281, 282, 283, 284, 285, 286, 287, 288, 289, 290, 291, 292, 293, 294, 295, 296, 297, 298, 299, 300, 301, 302, 303, 304, 305, 306, 307, 308, 309, 310, 311, 312, 313, 314, 315, 316, 317, 318, 319, 320, 321, 322, 323, 324, 325, 326, 327, 328, 329, 330, 331, 332, 333, 334, 335, 336, 337, 338, 339, 340, 341, 342, 343, 344, 345, 346, 347, 348, 349, 350, 351, 352, 353, 354, 355, 356, 357, 358, 359, 360, 361, 362, 363, 364, 365, 366, 367, 368, 369, 370, 371, 372, 373, 374, 375, 376, 377, 378, 379, 380, 381, 382, 383, 384, 385, 386, 387, 388, 389, 390, 391, 392, 393, 394, 395, 396, 397, 398, 399, 400, 401, 402, 403, 404, 405, 406, 407, 408, 409, 410, 411, 412, 413, 414, 415, 416, 417, 418, 419, 420, 421, 422, 423, 424, 425, 426, 427, 428, 429, 430, 431, 432, 433, 434, 435, 436, 437, 438, 439, 440, 441, 442, 443, 444, 445, 446, 447, 448, 449, 450, 451, 452, 453, 454, 455, 456, 457, 458, 459, 460, 461, 462, 463, 464, 465, 466, 467, 468, 469, 470, 471, 472, 473, 474, 475, 476, 477, 478, 479, 480, 481, 482, 483, 484, 485, 486, 487, 488, 489, 490, 491, 492, 493, 494, 495] from rfl, List.map_cons, List.map_nil, f20, f22, f24, f26, f28, f30, f32, f34, f36, f38, f43, f44, f45, f46, f47, f48, f49, f50, f51, f0, f412, f413, f414, f415, f416, f417, f418, f419, f420, f421, f422, f423, f424, f425, f426, f427, f428, f429, f430, f431, f432, f433, f434, f435, f436, f437, f438, f439, f440, f441, f442, f443, f444, f445, f446, f447, f448, f449, f450, f451, f452, f453, f454, f455, f456, f457, f459, f460, f461, f462, f463, f464, f465, f466, f468, f469, f470, f471, f472, f473, f474, f475, f476, f477, f478, f479, f480, f481, f482, f483, f484, f485, f486, f487, f488, f489, f490, f491, f492, f493, f494, f495]
                    clear hA hF f20 f22 f24 f26 f28 f30 f32 f34 f36 f38 f43 f44 f45 f46 f47 f48 f49 f50 f51 f0 f412 f413 f414 f415 f416 f417 f418 f419 f420 f421 f422 f423 f424 f425 f426 f427 f428 f429 f430 f431 f432 f433 f434 f435 f436 f437 f438 f439 f440 f441 f442 f443 f444 f445 f446 f447 f448 f449 f450 f451 f452 f453 f454 f455 f456 f457 f459 f460 f461 f462 f463 f464 f465 f466 f468 f469 f470 f471 f472 f473 f474 f475 f476 f477 f478 f479 f480 f481 f482 f483 f484 f485 f486 f487 f488 f489 f490 f491 f492 f493 f494 f495
                    have hbF := haZ.trans (Below.mono hR haZ.size)
                    clear hR
                    go_wp2_with fail
                    go_ret
                    exact ⟨rfl, hbF⟩
end Go.Proofs.YtkbmpkdflgimmaaDoor
