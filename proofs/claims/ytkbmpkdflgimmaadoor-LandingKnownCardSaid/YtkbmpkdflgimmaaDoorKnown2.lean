/- Blocks that are known, for LandingKnown: own and book, once more; rows of books in one block. -/
import Derived.Test.YtkbmpkdflgimmaaDoorKnown1
import Derived.Deep.MidRow
import Derived.Great.BuildSlice
namespace Go.Proofs.YtkbmpkdflgimmaaDoor
open Go.RowKit Go.Shelf

def tide8 (lo hi : Int) : Array Value := #[i64 lo, i64 hi, i64 14, i64 15, i64 18, i64 20, i64 16, i64 17]
def BkF (l : List Sound) (sa : Option Addr) (sc : Nat) (w : World) (e : Ending) (w' : World) : Prop := ∃ tb, e = .returned (bookVal (bookL l) (some ⟨tb, 0, none⟩) 4 sa sc) ∧ Below w.heap.size w w' ∧ w.heap.size ≤ tb ∧ w'.heap[tb]? = some (.cells (tide8 10 12) 24 (0, 0))
set_option maxRecDepth 100000 in
set_option maxHeartbeats 2000000 in
theorem book_f (sb sq : Nat) (sa : Option Addr) (sc : Nat) (l : List Sound) (w : World) (hS : SoundsAt w.heap.size w sb sq sa l) :
    Calls Tryd.prog 52 #[.slice sa l.length sc] w (BkF l sa sc w) := by
  obtain ⟨hb0, hz0⟩ := zero30_any w
  have hsl := hS.len
  go_enter Tryd.func52, Tryd.ntmps52
  go_wp2_with fail
  refine (range_any _ _ _).mono ?_
  rintro e w1 ⟨rfl, hb1⟩
  go_wp2_with fail
  refine (range_any _ _ _).mono ?_
  rintro e w2 ⟨rfl, hb2⟩
  go_wp2_with fail
  refine (range_any _ _ _).mono ?_
  rintro e w3 ⟨rfl, hb3⟩
  go_wp2_with fail
  refine (range_any _ _ _).mono ?_
  rintro e w4 ⟨rfl, hb4⟩
  go_wp2_with fail
  have ht4 : (w4.alloc (.cells #[i64 10, i64 12, i64 14, i64 15, i64 18, i64 20, i64 16, i64 17] 24)).heap[w4.heap.size]? = some (.cells #[i64 10, i64 12, i64 14, i64 15, i64 18, i64 20, i64 16, i64 17] 24 (0, 0)) := heap_alloc_new w4 _
  have hb4' : Below w4.heap.size w4 (w4.alloc (.cells #[i64 10, i64 12, i64 14, i64 15, i64 18, i64 20, i64 16, i64 17] 24)) := (Below.refl _ w4).alloc (Nat.le_refl _) _
  refine (range_any _ _ _).mono ?_
  rintro e w5 ⟨rfl, hb5⟩
  go_wp2_with fail
  refine (range_any _ _ _).mono ?_
  rintro e w6 ⟨rfl, hb6⟩
  go_wp2_with fail
  refine (range_any _ _ _).mono ?_
  rintro e w7 ⟨rfl, hb7⟩
  have hbA : Below w4.heap.size w4 w7 := ((hb4'.trans (hb5.mono hb4'.size)).trans (hb6.mono (Nat.le_trans hb4'.size hb5.size))).trans (hb7.mono (Nat.le_trans (Nat.le_trans hb4'.size hb5.size) hb6.size))
  have hbB : Below w.heap.size w w4 := (((hb0.trans (hb1.mono hb0.size)).trans (hb2.mono (Nat.le_trans hb0.size hb1.size))).trans (hb3.mono (Nat.le_trans (Nat.le_trans hb0.size hb1.size) hb2.size))).trans (hb4.mono (Nat.le_trans (Nat.le_trans (Nat.le_trans hb0.size hb1.size) hb2.size) hb3.size))
  have l0 := (Array.getElem?_eq_some_iff.1 hz0).1
  have hz1 := (hb1.block _ l0).trans hz0
  have hz2 := (hb2.block _ (Array.getElem?_eq_some_iff.1 hz1).1).trans hz1
  have hz3 := (hb3.block _ (Array.getElem?_eq_some_iff.1 hz2).1).trans hz2
  have hz4 := (hb4.block _ (Array.getElem?_eq_some_iff.1 hz3).1).trans hz3
  have l4 := (Array.getElem?_eq_some_iff.1 hz4).1
  have hz7 := (hbA.block _ l4).trans hz4
  have ht7 : w7.heap[w4.heap.size]? = some (.cells #[i64 10, i64 12, i64 14, i64 15, i64 18, i64 20, i64 16, i64 17] 24 (0, 0)) := by
    have t5 := (hb5.block _ (Array.getElem?_eq_some_iff.1 ht4).1).trans ht4
    have t6 := (hb6.block _ (Array.getElem?_eq_some_iff.1 t5).1).trans t5
    exact (hb7.block _ (Array.getElem?_eq_some_iff.1 t6).1).trans t6
  have hbF : Below w.heap.size w w7 := hbB.trans (hbA.mono hbB.size)
  clear hb0 hz0 hb1 hb2 hb3 hb4 hb4' ht4 hb5 hb6 hb7 hz1 hz2 hz3 hz4 l0
  go_wp2_with (refine st30 rfl _ _ rfl _ (bookCells (bookL l) (some ⟨w4.heap.size, 0, none⟩) 4 sa sc) zero30 rfl rfl hz7 rfl rfl (by simp [Value.oneCell']) ?_)
  have hset : (w7.setRow w.heap.size (bookCells (bookL l) (some ⟨w4.heap.size, 0, none⟩) 4 sa sc)).heap[w.heap.size]? = some (.cells (bookCells (bookL l) (some ⟨w4.heap.size, 0, none⟩) 4 sa sc) 30 (0, 0)) := setRow_heap _ _ _ _ _ _ hz7
  have hst := SetAt.row w7 w.heap.size (bookCells (bookL l) (some ⟨w4.heap.size, 0, none⟩) 4 sa sc)
  refine bodyPost_ret (results_cell_row rfl _ _ w.heap.size 30 _ (0, 0) _ rfl hset Tryd.underlying30 rfl (by rw [size30]; rfl)) rfl ?_
  have hbG := hst.below (Nat.le_refl _) hbF
  have ht8 : (w7.setRow w.heap.size (bookCells (bookL l) (some ⟨w4.heap.size, 0, none⟩) 4 sa sc)).heap[w4.heap.size]? = some (.cells #[i64 10, i64 12, i64 14, i64 15, i64 18, i64 20, i64 16, i64 17] 24 (0, 0)) := (hst.other _ (by omega)).trans ht7
  exact ⟨w4.heap.size, rfl, hbG, by omega, ht8⟩
def OwnF (w : World) (e : Ending) (w' : World) : Prop := ∃ tb, e = .returned (bookVal (bookL []) (some ⟨tb, 0, none⟩) 4 none 0) ∧ Below w.heap.size w w' ∧ w.heap.size ≤ tb ∧ w'.heap[tb]? = some (.cells (tide8 10 12) 24 (0, 0))
set_option maxRecDepth 100000 in
set_option maxHeartbeats 2000000 in
theorem own_f (w : World) : Calls Tryd.prog 51 #[] w (OwnF w) := by
  obtain ⟨hb0, hz0⟩ := zero30_any w
  go_enter Tryd.func51, Tryd.ntmps51
  go_wp2_with fail
  refine (book_f 0 0 none 0 [] _ ⟨by simp, fun h => absurd rfl h, fun h => absurd rfl h, fun k h => by simp at h, fun k h => by simp at h, fun k h => by simp at h⟩).mono ?_
  rintro e w1 ⟨tb, rfl, hb1, hlo, hT⟩
  have hz1 := (hb1.block _ (Array.getElem?_eq_some_iff.1 hz0).1).trans hz0
  have hbF : Below w.heap.size w w1 := hb0.trans (hb1.mono hb0.size)
  have hne : tb ≠ w.heap.size := Nat.ne_of_gt (show w.heap.size + 1 ≤ tb by simpa using hlo)
  have hle : w.heap.size ≤ tb := Nat.le_of_succ_le (show w.heap.size + 1 ≤ tb by simpa using hlo)
  clear hb0 hz0 hb1 hlo
  go_wp2_with (refine st30 rfl _ _ rfl _ (bookCells (bookL []) (some ⟨tb, 0, none⟩) 4 none 0) zero30 rfl rfl hz1 rfl rfl (by simp [Value.oneCell']) ?_)
  have hset : (w1.setRow w.heap.size (bookCells (bookL []) (some ⟨tb, 0, none⟩) 4 none 0)).heap[w.heap.size]? = some (.cells (bookCells (bookL []) (some ⟨tb, 0, none⟩) 4 none 0) 30 (0, 0)) := setRow_heap _ _ _ _ _ _ hz1
  have hst := SetAt.row w1 w.heap.size (bookCells (bookL []) (some ⟨tb, 0, none⟩) 4 none 0)
  refine bodyPost_ret (results_cell_row rfl _ _ w.heap.size 30 _ (0, 0) _ rfl hset Tryd.underlying30 rfl (by rw [size30]; rfl)) rfl ?_
  exact ⟨tb, rfl, hst.below (Nat.le_refl _) hbF, hle, (hst.other _ hne).trans hT⟩
/-- Rows of fourteen cells, one behind the other. -/
def rowsC (rows : List (Array Value)) : Array Value := ((rows.map Value.agg).flatMap fun v => v.cells.toList).toArray
theorem rowsC_get {rows : List (Array Value)} (h : ∀ r ∈ rows, r.size = 14) (k : Nat) : (rowsC rows)[k]? = (rows[k / 14]?).bind (fun r => r[k % 14]?) := by
  unfold rowsC
  have h2 := Great.flat_get (s := 14) (by decide) (rows.map Value.agg) (fun v hv => by obtain ⟨r, hr, rfl⟩ := List.mem_map.1 hv; exact h r hr) k
  rw [List.getElem?_toArray, h2, List.getElem?_map]
  cases rows[k / 14]? <;> rfl
theorem rowsC_size {rows : List (Array Value)} (h : ∀ r ∈ rows, r.size = 14) : (rowsC rows).size = 14 * rows.length := by
  unfold rowsC
  rw [List.size_toArray]
  induction rows with
  | nil => rfl
  | cons r rows ih =>
    rw [List.map_cons, List.flatMap_cons, List.length_append, ih (fun x hx => h x (by simp [hx]))]
    have : (Value.agg r).cells.toList.length = 14 := by rw [Array.length_toList]; exact h r (by simp)
    rw [this, List.length_cons]
    omega
theorem rowsC_set {rows : List (Array Value)} (h : ∀ r ∈ rows, r.size = 14) (i j : Nat) (v : Value) (r : Array Value) (hi : rows[i]? = some r) (hj : j < 14) :
    (rowsC rows).setIfInBounds (14 * i + j) v = rowsC (rows.set i (r.setIfInBounds j v)) := by
  have hil := (List.getElem?_eq_some_iff.1 hi).1
  have hrs : r.size = 14 := h r (List.mem_of_getElem? hi)
  have h2 : ∀ x ∈ rows.set i (r.setIfInBounds j v), x.size = 14 := fun x hx => by
    rcases List.mem_or_eq_of_mem_set hx with hx | rfl
    · exact h x hx
    · simpa using hrs
  apply Array.ext_getElem?
  intro k
  rw [rowsC_get h2, Array.getElem?_setIfInBounds, rowsC_get h, rowsC_size h, List.getElem?_set]
  by_cases hk : 14 * i + j = k
  · subst hk
    have e1 : (14 * i + j) / 14 = i := by omega
    have e2 : (14 * i + j) % 14 = j := by omega
    rw [if_pos rfl, if_pos (by omega), e1, e2, if_pos rfl, if_pos hil]
    simp [hrs, hj]
  · rw [if_neg hk]
    by_cases hki : i = k / 14
    · subst hki
      rw [if_pos rfl, if_pos hil, hi]
      have : j ≠ k % 14 := by omega
      simp [this]
    · rw [if_neg hki]
theorem rows_range {W : World} {g : Nat} {rows : List (Array Value)} (h : ∀ r ∈ rows, r.size = 14) (hg : W.heap[g]? = some (.cells (rowsC rows) 30 (0, 0))) {i : Nat} {r : Array Value} (hi : rows[i]? = some r) : W.rangeAt g (i * 14) r.toList := fun j v hv => by
  have hj : j < 14 := by
    have := (List.getElem?_eq_some_iff.1 hv).1
    rw [Array.length_toList, h r (List.mem_of_getElem? hi)] at this
    exact this
  rw [cells_of hg, rowsC_get h, show (i * 14 + j) / 14 = i by omega, show (i * 14 + j) % 14 = j by omega, hi]
  simpa using hv
theorem ld30m {ops : Array Oper} {rest : List Oper} {o : Oper} {a : Act} {w : World} {Q : Exit → Act → World → Prop} (hgd : o.guard = none) (x : Operand) (ho : o.op = .load 30 x) (g i : Nat) (r : Array Value) (hx : a.eval x = .pointer (some ⟨g, i * 14, none⟩)) (hr : w.rangeAt g (i * 14) r.toList) (hs : r.size = 14)
    (h : wpList Tryd.prog ops Q rest (a.put o.dst (.agg r)) w) : wpList Tryd.prog ops Q (o :: rest) a w :=
  wpList_load_mid hgd 30 x ho g (i * 14) hx r.toList _ hr Tryd.underlying30 rfl (by rw [size30, Array.length_toList, hs]) (by simpa using h)
theorem wp_rows {o : Oper} {a : Act} {w : World} {K : Act → World → Prop} {Q : Exit → Act → World → Prop} (parts : Array (Nat × Operand)) (rows : List (Array Value)) (ho : o.op = .buildSlice 83 rows.length parts)
    (h : ∀ r ∈ rows, r.size = 14) (hl : rows.length = 15) (hp : (parts.map fun (i, x) => (i, a.eval x)).toList = ((rows.map Value.agg).zipIdx 0).map fun x => (x.2, x.1))
    (hK : K (a.put o.dst (.slice (some ⟨w.heap.size, 0, none⟩) rows.length rows.length)) (w.alloc (.cells (rowsC rows) 30))) : o.wp Tryd.prog a w K Q := by
  have hsz := size30
  cases hie : Tryd.prog.info? 30 with
  | none => rw [hie] at hsz; cases hsz
  | some ie =>
    rw [hie] at hsz
    have hs : ie.size = 14 := Option.some.inj hsz
    have hz : ∃ z, ie.zero = some z := by
      have : ((Tryd.prog.info? 30).bind (·.zero)).isSome = true := by kernel_rfl
      rw [hie] at this
      exact Option.isSome_iff_exists.1 this
    obtain ⟨z, hz⟩ := hz
    refine wp_buildSlice 83 30 rows.length parts ho (rowsC rows) ie z Tryd.underlying83 hie hz (by rw [hs, hl]; decide) (by rw [hs, hl]; decide) ?_ hK
    rw [hp, hs]
    exact Great.fill_whole (by decide) (rows.map Value.agg) _ (fun v hv => by obtain ⟨r, hr, rfl⟩ := List.mem_map.1 hv; exact h r hr) (by simp)
end Go.Proofs.YtkbmpkdflgimmaaDoor
