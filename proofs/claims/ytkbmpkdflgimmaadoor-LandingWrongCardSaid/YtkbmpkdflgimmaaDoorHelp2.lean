/- Contracts of the chapter's books: book, own, sounded, torn. -/
import Derived.Test.YtkbmpkdflgimmaaDoorHelp1
namespace Go.Proofs.YtkbmpkdflgimmaaDoor
open Go.RowKit Go.Shelf

theorem span_set {W : World} {z : Nat} {cs : Array Value} {b o : Nat} {a : Option Addr} {l : List Span} (h : SpansAt W.heap.size W b o a l) (hbz : l ≠ [] → b ≠ z) : SpansAt (W.setRow z cs).heap.size (W.setRow z cs) b o a l := by
  have hst := SetAt.row W z cs
  have hsz := hst.size
  refine ⟨h.len, h.at_, fun hne => by rw [hsz]; exact h.lt hne, fun k hk => ?_, fun k hk => ?_⟩
  · exact (World.cell?_of_block (w := W) (hst.other b (hbz (ne_nil_of_lt hk)))).trans (h.lo k hk)
  · exact (World.cell?_of_block (w := W) (hst.other b (hbz (ne_nil_of_lt hk)))).trans (h.hi k hk)
def bookL (l : List Sound) : Book := { tides := [⟨10, 12⟩, ⟨14, 15⟩, ⟨18, 20⟩, ⟨16, 17⟩], s0 := ⟨2, 3, 10, 19⟩, s1 := ⟨4, 5, 12, 20⟩, el := 5, eh := 6, sink := 10, under := 1, sounds := l }
abbrev zero30 : Array Value := #[.slice none 0 0, i64 0, i64 0, i64 0, i64 0, i64 0, i64 0, i64 0, i64 0, i64 0, i64 0, i64 0, i64 0, .slice none 0 0]
theorem zero30_any (w : World) : Below w.heap.size w (w.alloc (.cells zero30 30)) ∧ (w.alloc (.cells zero30 30)).heap[w.heap.size]? = some (.cells zero30 30 (0, 0)) := ⟨(Below.refl _ w).alloc (Nat.le_refl _) _, heap_alloc_new w _⟩
/-- A book in memory: its value, its lists where they lie. -/
structure BookAt (W : World) (v : Value) (B : Book) (tb tq : Nat) (ta : Option Addr) (tc : Nat) (sb sq : Nat) (sa : Option Addr) (sc : Nat) : Prop where
  val : v = bookVal B ta tc sa sc
  tides : SpansAt W.heap.size W tb tq ta B.tides
  sounds : SoundsAt W.heap.size W sb sq sa B.sounds
def BookV (W : World) (v : Value) (B : Book) : Prop := ∃ tb tq ta tc sb sq sa sc, BookAt W v B tb tq ta tc sb sq sa sc
theorem BookV.below {W W' : World} {v : Value} {B : Book} (h : BookV W v B) (hb : Below W.heap.size W W') : BookV W' v B := by
  obtain ⟨tb, tq, ta, tc, sb, sq, sa, sc, h1, h2, h3⟩ := h
  exact ⟨tb, tq, ta, tc, sb, sq, sa, sc, h1, (h2.same (Same.of_below hb)).up hb.size, (h3.same (Same.of_below hb)).up hb.size⟩
def BkPost (l : List Sound) (sa : Option Addr) (sc : Nat) (w : World) (e : Ending) (w' : World) : Prop := ∃ tb ta tc, e = .returned (bookVal (bookL l) ta tc sa sc) ∧ Below w.heap.size w w' ∧ w.heap.size ≤ tb ∧ SpansAt w'.heap.size w' tb 0 ta (bookL l).tides
def BookPost (B : Book) (w : World) (e : Ending) (w' : World) : Prop := ∃ v, e = .returned v ∧ Below w.heap.size w w' ∧ BookV w' v B
set_option maxRecDepth 100000 in
set_option maxHeartbeats 2000000 in
theorem book_any (sb sq : Nat) (sa : Option Addr) (sc : Nat) (l : List Sound) (w : World) (hS : SoundsAt w.heap.size w sb sq sa l) :
    Calls Tryd.prog 52 #[.slice sa l.length sc] w (BkPost l sa sc w) := by
  obtain ⟨hb0, hz0⟩ := zero30_any w
  have hsl := hS.len
  go_enter Tryd.func52, Tryd.ntmps52
  go_wp2_with fail
  refine (range_any _ _ _).mono ?_
  rintro e w1 ⟨rfl, hb1⟩
  go_wp2_with fail
  refine (range_any _ _ _).mono ?_
  rintro e w2 ⟨rfl, hb2⟩
  go_wp2_with fail
  refine (range_any _ _ _).mono ?_
  rintro e w3 ⟨rfl, hb3⟩
  go_wp2_with fail
  refine (range_any _ _ _).mono ?_
  rintro e w4 ⟨rfl, hb4⟩
  go_wp2_with fail
  have ht4 : (w4.alloc (.cells #[i64 10, i64 12, i64 14, i64 15, i64 18, i64 20, i64 16, i64 17] 24)).heap[w4.heap.size]? = some (.cells #[i64 10, i64 12, i64 14, i64 15, i64 18, i64 20, i64 16, i64 17] 24 (0, 0)) := heap_alloc_new w4 _
  have hb4' : Below w4.heap.size w4 (w4.alloc (.cells #[i64 10, i64 12, i64 14, i64 15, i64 18, i64 20, i64 16, i64 17] 24)) := (Below.refl _ w4).alloc (Nat.le_refl _) _
  refine (range_any _ _ _).mono ?_
  rintro e w5 ⟨rfl, hb5⟩
  go_wp2_with fail
  refine (range_any _ _ _).mono ?_
  rintro e w6 ⟨rfl, hb6⟩
  go_wp2_with fail
  refine (range_any _ _ _).mono ?_
  rintro e w7 ⟨rfl, hb7⟩
  have hbA : Below w4.heap.size w4 w7 := ((hb4'.trans (hb5.mono hb4'.size)).trans (hb6.mono (Nat.le_trans hb4'.size hb5.size))).trans (hb7.mono (Nat.le_trans (Nat.le_trans hb4'.size hb5.size) hb6.size))
  have hbB : Below w.heap.size w w4 := (((hb0.trans (hb1.mono hb0.size)).trans (hb2.mono (Nat.le_trans hb0.size hb1.size))).trans (hb3.mono (Nat.le_trans (Nat.le_trans hb0.size hb1.size) hb2.size))).trans (hb4.mono (Nat.le_trans (Nat.le_trans (Nat.le_trans hb0.size hb1.size) hb2.size) hb3.size))
  have l0 := (Array.getElem?_eq_some_iff.1 hz0).1
  have hz1 := (hb1.block _ l0).trans hz0
  have hz2 := (hb2.block _ (Array.getElem?_eq_some_iff.1 hz1).1).trans hz1
  have hz3 := (hb3.block _ (Array.getElem?_eq_some_iff.1 hz2).1).trans hz2
  have hz4 := (hb4.block _ (Array.getElem?_eq_some_iff.1 hz3).1).trans hz3
  have l4 := (Array.getElem?_eq_some_iff.1 hz4).1
  have hz7 := (hbA.block _ l4).trans hz4
  have ht7 : w7.heap[w4.heap.size]? = some (.cells #[i64 10, i64 12, i64 14, i64 15, i64 18, i64 20, i64 16, i64 17] 24 (0, 0)) := by
    have t5 := (hb5.block _ (Array.getElem?_eq_some_iff.1 ht4).1).trans ht4
    have t6 := (hb6.block _ (Array.getElem?_eq_some_iff.1 t5).1).trans t5
    exact (hb7.block _ (Array.getElem?_eq_some_iff.1 t6).1).trans t6
  have hbF : Below w.heap.size w w7 := hbB.trans (hbA.mono hbB.size)
  clear hb0 hz0 hb1 hb2 hb3 hb4 hb4' ht4 hb5 hb6 hb7 hz1 hz2 hz3 hz4 l0
  go_wp2_with (refine st30 rfl _ _ rfl _ (bookCells (bookL l) (some ⟨w4.heap.size, 0, none⟩) 4 sa sc) zero30 rfl rfl hz7 rfl rfl (by simp [Value.oneCell']) ?_)
  have hset : (w7.setRow w.heap.size (bookCells (bookL l) (some ⟨w4.heap.size, 0, none⟩) 4 sa sc)).heap[w.heap.size]? = some (.cells (bookCells (bookL l) (some ⟨w4.heap.size, 0, none⟩) 4 sa sc) 30 (0, 0)) := setRow_heap _ _ _ _ _ _ hz7
  have hst := SetAt.row w7 w.heap.size (bookCells (bookL l) (some ⟨w4.heap.size, 0, none⟩) 4 sa sc)
  refine bodyPost_ret (results_cell_row rfl _ _ w.heap.size 30 _ (0, 0) _ rfl hset Tryd.underlying30 rfl (by rw [size30]; rfl)) rfl ?_
  have hbG := hst.below (Nat.le_refl _) hbF
  refine ⟨w4.heap.size, some ⟨w4.heap.size, 0, none⟩, 4, rfl, hbG, by omega, ?_⟩
  have ht8 : (w7.setRow w.heap.size (bookCells (bookL l) (some ⟨w4.heap.size, 0, none⟩) 4 sa sc)).heap[w4.heap.size]? = some (.cells #[i64 10, i64 12, i64 14, i64 15, i64 18, i64 20, i64 16, i64 17] 24 (0, 0)) := (hst.other _ (by omega)).trans ht7
  have hc8 := cells_of ht8
  refine ⟨show 4 * 16 ≤ 140737488351232 by decide, fun _ => rfl, fun _ => (Array.getElem?_eq_some_iff.1 ht8).1, fun k hk => ?_, fun k hk => ?_⟩
  · rw [hc8]
    match k, hk with
    | 0, _ => rfl
    | 1, _ => rfl
    | 2, _ => rfl
    | 3, _ => rfl
  · rw [hc8]
    match k, hk with
    | 0, _ => rfl
    | 1, _ => rfl
    | 2, _ => rfl
    | 3, _ => rfl
set_option maxRecDepth 100000 in
set_option maxHeartbeats 2000000 in
theorem own_any (w : World) : Calls Tryd.prog 51 #[] w (BookPost (bookL []) w) := by
  obtain ⟨hb0, hz0⟩ := zero30_any w
  go_enter Tryd.func51, Tryd.ntmps51
  go_wp2_with fail
  refine (book_any 0 0 none 0 [] _ ⟨by simp, fun h => absurd rfl h, fun h => absurd rfl h, fun k h => by simp at h, fun k h => by simp at h, fun k h => by simp at h⟩).mono ?_
  rintro e w1 ⟨tb, ta, tc, rfl, hb1, hlo, hT⟩
  have hz1 := (hb1.block _ (Array.getElem?_eq_some_iff.1 hz0).1).trans hz0
  have hbF : Below w.heap.size w w1 := hb0.trans (hb1.mono hb0.size)
  have hne : tb ≠ w.heap.size := Nat.ne_of_gt (show w.heap.size + 1 ≤ tb by simpa using hlo)
  clear hb0 hz0 hb1 hlo
  go_wp2_with (refine st30 rfl _ _ rfl _ (bookCells (bookL []) ta tc none 0) zero30 rfl rfl hz1 rfl rfl (by simp [Value.oneCell']) ?_)
  have hset : (w1.setRow w.heap.size (bookCells (bookL []) ta tc none 0)).heap[w.heap.size]? = some (.cells (bookCells (bookL []) ta tc none 0) 30 (0, 0)) := setRow_heap _ _ _ _ _ _ hz1
  refine bodyPost_ret (results_cell_row rfl _ _ w.heap.size 30 _ (0, 0) _ rfl hset Tryd.underlying30 rfl (by rw [size30]; rfl)) rfl ?_
  exact ⟨_, rfl, (SetAt.row w1 w.heap.size _).below (Nat.le_refl _) hbF, tb, 0, ta, tc, 0, 0, none, 0, rfl, span_set hT (fun _ => hne), ⟨by simp [bookL], fun h => absurd rfl h, fun h => absurd rfl h, fun k h => by simp [bookL] at h, fun k h => by simp [bookL] at h, fun k h => by simp [bookL] at h⟩⟩
theorem sound_set {W : World} {z : Nat} {cs : Array Value} {b o : Nat} {a : Option Addr} {l : List Sound} (h : SoundsAt W.heap.size W b o a l) (hbz : l ≠ [] → b ≠ z) : SoundsAt (W.setRow z cs).heap.size (W.setRow z cs) b o a l := by
  have hst := SetAt.row W z cs
  have hsz := hst.size
  refine ⟨h.len, h.at_, fun hne => by rw [hsz]; exact h.lt hne, fun k hk => ?_, fun k hk => ?_, fun k hk => ?_⟩
  · exact (World.cell?_of_block (w := W) (hst.other b (hbz (ne_nil_of_lt hk)))).trans (h.hour k hk)
  · exact (World.cell?_of_block (w := W) (hst.other b (hbz (ne_nil_of_lt hk)))).trans (h.shore k hk)
  · exact (World.cell?_of_block (w := W) (hst.other b (hbz (ne_nil_of_lt hk)))).trans (h.deep k hk)
theorem sounds1 {W : World} {b : Nat} {x : Sound} (h : W.heap[b]? = some (.cells #[i64 x.hour, i64 x.shore, i64 x.deep] 70 (0, 0))) : SoundsAt W.heap.size W b 0 (some ⟨b, 0, none⟩) [x] := by
  have hc := cells_of h
  refine ⟨by simp, fun _ => rfl, fun _ => (Array.getElem?_eq_some_iff.1 h).1, fun k hk => ?_, fun k hk => ?_, fun k hk => ?_⟩ <;> (rw [hc]; match k, hk with | 0, _ => rfl)
theorem sounds2 {W : World} {b : Nat} {x y : Sound} (h : W.heap[b]? = some (.cells #[i64 x.hour, i64 x.shore, i64 x.deep, i64 y.hour, i64 y.shore, i64 y.deep] 70 (0, 0))) : SoundsAt W.heap.size W b 0 (some ⟨b, 0, none⟩) [x, y] := by
  have hc := cells_of h
  refine ⟨by simp, fun _ => rfl, fun _ => (Array.getElem?_eq_some_iff.1 h).1, fun k hk => ?_, fun k hk => ?_, fun k hk => ?_⟩ <;> (rw [hc]; match k, hk with | 0, _ => rfl | 1, _ => rfl)
set_option maxRecDepth 100000 in
set_option maxHeartbeats 2000000 in
theorem sounded_any (w : World) : Calls Tryd.prog 54 #[] w (BookPost (bookL [⟨0, 0, 10⟩]) w) := by
  obtain ⟨hb0, hz0⟩ := zero30_any w
  go_enter Tryd.func54, Tryd.ntmps54
  go_wp2_with fail
  have hn1 := heap_alloc2_new w (.cells zero30 30) (.cells #[i64 0, i64 0, i64 10] 70)
  have hb0' : Below w.heap.size w ((w.alloc (.cells zero30 30)).alloc (.cells #[i64 0, i64 0, i64 10] 70)) := hb0.alloc (by simp) _
  have hz0' : ((w.alloc (.cells zero30 30)).alloc (.cells #[i64 0, i64 0, i64 10] 70)).heap[w.heap.size]? = some (.cells zero30 30 (0, 0)) := (Below.heap_alloc _ _ _ (by simp)).trans hz0
  have hS := sounds1 (x := ⟨0, 0, 10⟩) hn1
  refine (book_any (w.heap.size + 1) 0 (some ⟨w.heap.size + 1, 0, none⟩) 1 [⟨0, 0, 10⟩] _ hS).mono ?_
  rintro e w1 ⟨tb, ta, tc, rfl, hb1, hlo, hT⟩
  have hz1 := (hb1.block _ (Array.getElem?_eq_some_iff.1 hz0').1).trans hz0'
  have hbF : Below w.heap.size w w1 := hb0'.trans (hb1.mono hb0'.size)
  have hne : tb ≠ w.heap.size := Nat.ne_of_gt (Nat.lt_of_succ_lt (show w.heap.size + 1 + 1 ≤ tb by simpa using hlo))
  have hS1 := (hS.same (Same.of_below hb1)).up hb1.size
  clear hb0 hz0 hb1 hlo hn1 hb0' hz0' hS
  go_wp2_with (refine st30 rfl _ _ rfl _ (bookCells (bookL [⟨0, 0, 10⟩]) ta tc (some ⟨w.heap.size + 1, 0, none⟩) 1) zero30 rfl rfl hz1 rfl rfl (by simp [Value.oneCell']) ?_)
  have hset : (w1.setRow w.heap.size (bookCells (bookL [⟨0, 0, 10⟩]) ta tc (some ⟨w.heap.size + 1, 0, none⟩) 1)).heap[w.heap.size]? = some (.cells (bookCells (bookL [⟨0, 0, 10⟩]) ta tc (some ⟨w.heap.size + 1, 0, none⟩) 1) 30 (0, 0)) := setRow_heap _ _ _ _ _ _ hz1
  refine bodyPost_ret (results_cell_row rfl _ _ w.heap.size 30 _ (0, 0) _ rfl hset Tryd.underlying30 rfl (by rw [size30]; rfl)) rfl ?_
  exact ⟨_, rfl, (SetAt.row w1 w.heap.size _).below (Nat.le_refl _) hbF, tb, 0, ta, tc, _, 0, _, 1, rfl, span_set hT (fun _ => hne), sound_set hS1 (fun _ => by omega)⟩
set_option maxRecDepth 100000 in
set_option maxHeartbeats 2000000 in
theorem torn_any (w : World) : Calls Tryd.prog 53 #[] w (BookPost (bookL [⟨0, 0, 10⟩, ⟨0, 1, 6⟩]) w) := by
  obtain ⟨hb0, hz0⟩ := zero30_any w
  go_enter Tryd.func53, Tryd.ntmps53
  go_wp2_with fail
  have hn1 := heap_alloc2_new w (.cells zero30 30) (.cells #[i64 0, i64 0, i64 10, i64 0, i64 1, i64 6] 70)
  have hb0' : Below w.heap.size w ((w.alloc (.cells zero30 30)).alloc (.cells #[i64 0, i64 0, i64 10, i64 0, i64 1, i64 6] 70)) := hb0.alloc (by simp) _
  have hz0' : ((w.alloc (.cells zero30 30)).alloc (.cells #[i64 0, i64 0, i64 10, i64 0, i64 1, i64 6] 70)).heap[w.heap.size]? = some (.cells zero30 30 (0, 0)) := (Below.heap_alloc _ _ _ (by simp)).trans hz0
  have hS := sounds2 (x := ⟨0, 0, 10⟩) (y := ⟨0, 1, 6⟩) hn1
  refine (book_any (w.heap.size + 1) 0 (some ⟨w.heap.size + 1, 0, none⟩) 2 [⟨0, 0, 10⟩, ⟨0, 1, 6⟩] _ hS).mono ?_
  rintro e w1 ⟨tb, ta, tc, rfl, hb1, hlo, hT⟩
  have hz1 := (hb1.block _ (Array.getElem?_eq_some_iff.1 hz0').1).trans hz0'
  have hbF : Below w.heap.size w w1 := hb0'.trans (hb1.mono hb0'.size)
  have hne : tb ≠ w.heap.size := Nat.ne_of_gt (Nat.lt_of_succ_lt (show w.heap.size + 1 + 1 ≤ tb by simpa using hlo))
  have hS1 := (hS.same (Same.of_below hb1)).up hb1.size
  clear hb0 hz0 hb1 hlo hn1 hb0' hz0' hS
  go_wp2_with (refine st30 rfl _ _ rfl _ (bookCells (bookL [⟨0, 0, 10⟩, ⟨0, 1, 6⟩]) ta tc (some ⟨w.heap.size + 1, 0, none⟩) 2) zero30 rfl rfl hz1 rfl rfl (by simp [Value.oneCell']) ?_)
  have hset : (w1.setRow w.heap.size (bookCells (bookL [⟨0, 0, 10⟩, ⟨0, 1, 6⟩]) ta tc (some ⟨w.heap.size + 1, 0, none⟩) 2)).heap[w.heap.size]? = some (.cells (bookCells (bookL [⟨0, 0, 10⟩, ⟨0, 1, 6⟩]) ta tc (some ⟨w.heap.size + 1, 0, none⟩) 2) 30 (0, 0)) := setRow_heap _ _ _ _ _ _ hz1
  refine bodyPost_ret (results_cell_row rfl _ _ w.heap.size 30 _ (0, 0) _ rfl hset Tryd.underlying30 rfl (by rw [size30]; rfl)) rfl ?_
  exact ⟨_, rfl, (SetAt.row w1 w.heap.size _).below (Nat.le_refl _) hbF, tb, 0, ta, tc, _, 0, _, 2, rfl, span_set hT (fun _ => hne), sound_set hS1 (fun _ => by omega)⟩
end Go.Proofs.YtkbmpkdflgimmaaDoor
