/- Lists of what both bottoms can be, in memory; what may and must compute. -/
import Derived.Test.YtkbmpkdflgimmaaDoorLands
import Derived.Test.YtkbmpkdflgimmaaDoorQRound
namespace Go.Proofs.YtkbmpkdflgimmaaDoor
open Go.RowKit Go.Shelf

/-- A list of bottoms lies in memory at block b, offset o; b lies below n. -/
structure CansAt (n : Nat) (w : World) (b o : Nat) (a : Option Addr) (l : List (Int × Int)) : Prop where
  len : l.length * 16 ≤ 140737488351232
  at_ : l ≠ [] → a = some ⟨b, o, none⟩
  lt : l ≠ [] → b < n
  fst : ∀ k (h : k < l.length), w.cell? ⟨b, o + k * 2, none⟩ = some (i64 l[k].1)
  snd : ∀ k (h : k < l.length), w.cell? ⟨b, o + k * 2 + 1, none⟩ = some (i64 l[k].2)
theorem CansAt.same {n : Nat} {w w' : World} {b o a l} (h : CansAt n w b o a l) (hb : Same n w w') : CansAt n w' b o a l :=
  ⟨h.len, h.at_, h.lt, fun k hk => (hb.cell (p := ⟨b, _, none⟩) (h.lt (ne_nil_of_lt hk))).trans (h.fst k hk), fun k hk => (hb.cell (p := ⟨b, _, none⟩) (h.lt (ne_nil_of_lt hk))).trans (h.snd k hk)⟩
theorem CansAt.up {n n' : Nat} {w : World} {b o a l} (h : CansAt n w b o a l) (hn : n ≤ n') : CansAt n' w b o a l := ⟨h.len, h.at_, fun x => Nat.lt_of_lt_of_le (h.lt x) hn, h.fst, h.snd⟩
/-- Heights that are so near to 0 that nothing runs over. -/
def CansOk (l : List (Int × Int)) : Prop := ∀ f ∈ l, (-100 ≤ f.1 ∧ f.1 ≤ 100) ∧ (-100 ≤ f.2 ∧ f.2 ≤ 100)
def fAt (s : Int) (f : Int × Int) : Int := if s = 0 then f.1 else f.2
def mustB (B : Book) (s load : Int) (t : Span) (D : Int → Int → List Int) (hour : Int) (l : List (Int × Int)) : Bool := l.all fun f => (hList t D hour f.1 f.2).all fun h => landsB B s load h (fAt s f) B.eh
def mayB (B : Book) (s load : Int) (t : Span) (D : Int → Int → List Int) (hour : Int) (l : List (Int × Int)) : Bool := l.any fun f => (hList t D hour f.1 f.2).any fun h => landsB B s load h (fAt s f) B.el

/-- The boxes of the parameters of may and must, and of their result. -/
structure MI (z : Nat) (B : Book) (ta : Option Addr) (tc : Nat) (sa : Option Addr) (sc m : Nat) (cv : Value) (hour s load : Int) (r : Bool) (W0 W : World) : Prop where
  below : Below z W0 W
  c0 : W.heap[z]? = some (.cells (calcCells B ta tc sa sc m cv) 93 (0, 0))
  c1 : W.heap[z + 1]? = some (.cells #[i64 hour, i64 s] 107 (0, 0))
  c2 : W.heap[z + 1 + 1]? = some (.cells #[i64 load] 3 (0, 0))
  c3 : W.heap[z + 1 + 1 + 1]? = some (.cells #[.bool r] 4 (0, 0))
theorem MI.lt {z B ta tc sa sc m cv hour s load r W0 W} (h : MI z B ta tc sa sc m cv hour s load r W0 W) : z + 3 < W.heap.size := (Array.getElem?_eq_some_iff.1 h.c3).1
theorem MI.more {z B ta tc sa sc m cv hour s load r W0 W W'} (h : MI z B ta tc sa sc m cv hour s load r W0 W) (hb : Below W.heap.size W W') : MI z B ta tc sa sc m cv hour s load r W0 W' := by
  have := h.lt
  exact ⟨h.below.trans (hb.mono (by omega)), (hb.block _ (by omega)).trans h.c0, (hb.block _ (by omega)).trans h.c1, (hb.block _ (by omega)).trans h.c2, (hb.block _ (by omega)).trans h.c3⟩
theorem alloc4 (w : World) (o0 o1 o2 o3 : Obj) : Below w.heap.size w ((((w.alloc o0).alloc o1).alloc o2).alloc o3) ∧ ((((w.alloc o0).alloc o1).alloc o2).alloc o3).heap.size = w.heap.size + 4 ∧
    ((((w.alloc o0).alloc o1).alloc o2).alloc o3).heap[w.heap.size]? = some o0 ∧ ((((w.alloc o0).alloc o1).alloc o2).alloc o3).heap[w.heap.size + 1]? = some o1 ∧ ((((w.alloc o0).alloc o1).alloc o2).alloc o3).heap[w.heap.size + 1 + 1]? = some o2 ∧
    ((((w.alloc o0).alloc o1).alloc o2).alloc o3).heap[w.heap.size + 1 + 1 + 1]? = some o3 := by
  have e : ((((w.alloc o0).alloc o1).alloc o2).alloc o3).heap = w.heap ++ #[o0, o1, o2, o3] := by apply Array.ext'; simp [alloc_heap]
  refine ⟨((((Below.refl _ w).alloc (Nat.le_refl _) _).alloc (by simp) _).alloc (by simp; omega) _).alloc (by simp; omega) _, by simp, ?_, ?_, ?_, ?_⟩ <;> rw [e, Array.getElem?_append_right (by omega)]
  · simp
  · simp
  · rw [show w.heap.size + 1 + 1 - w.heap.size = 2 by omega]; rfl
  · rw [show w.heap.size + 1 + 1 + 1 - w.heap.size = 3 by omega]; rfl
theorem MI.result {z B ta tc sa sc m cv hour s load r W0 W} (h : MI z B ta tc sa sc m cv hour s load r W0 W) : Boxed W (z + 1 + 1 + 1) 4 (.bool r) := h.c3
end Go.Proofs.YtkbmpkdflgimmaaDoor
