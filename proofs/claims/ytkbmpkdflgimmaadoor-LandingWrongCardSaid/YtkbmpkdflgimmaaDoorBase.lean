import Derived.Test.YtkbmpkdflgimmaaDoorProg
import Derived.WalkKit
import Derived.WalkLawsBesides
import Derived.WalkSpells
import Derived.BigQuiet
import Derived.Lib.Hide
import Derived.Deep.DeepCutAuto
import Derived.KernelRfl
namespace Go.Proofs.YtkbmpkdflgimmaaDoor
open Go.RowKit

structure Span where
  lo : Int
  hi : Int
structure Shore where
  fl : Int
  fh : Int
  lo : Int
  hi : Int
structure Sound where
  hour : Int
  shore : Int
  deep : Int
structure Book where
  tides : List Span
  s0 : Shore
  s1 : Shore
  el : Int
  eh : Int
  sink : Int
  under : Int
  sounds : List Sound

abbrev i64 (n : Int) : Value := .int .i64 n
abbrev bookCells (B : Book) (ta : Option Addr) (tc : Nat) (sa : Option Addr) (sc : Nat) : Array Value := #[.slice ta B.tides.length tc, i64 B.s0.fl, i64 B.s0.fh, i64 B.s0.lo, i64 B.s0.hi, i64 B.s1.fl, i64 B.s1.fh, i64 B.s1.lo, i64 B.s1.hi, i64 B.el, i64 B.eh, i64 B.sink, i64 B.under, .slice sa B.sounds.length sc]
abbrev bookVal (B : Book) (ta : Option Addr) (tc : Nat) (sa : Option Addr) (sc : Nat) : Value :=
  .agg #[.slice ta B.tides.length tc, i64 B.s0.fl, i64 B.s0.fh, i64 B.s0.lo, i64 B.s0.hi, i64 B.s1.fl, i64 B.s1.fh, i64 B.s1.lo, i64 B.s1.hi, i64 B.el, i64 B.eh, i64 B.sink, i64 B.under, .slice sa B.sounds.length sc]

/-- Below block number n the world W' is as W was. -/
def Same (n : Nat) (W W' : World) : Prop := W.heap.size ≤ W'.heap.size ∧ ∀ k, k < n → W'.heap[k]? = W.heap[k]?
theorem Same.of_below {n : Nat} {W W' : World} (h : Below n W W') : Same n W W' := ⟨h.size, h.block⟩
theorem Same.refl (n : Nat) (W : World) : Same n W W := ⟨Nat.le_refl _, fun _ _ => rfl⟩
theorem Same.trans {n : Nat} {A B C : World} (h : Same n A B) (k : Same n B C) : Same n A C := ⟨Nat.le_trans h.1 k.1, fun i hi => (k.2 i hi).trans (h.2 i hi)⟩
theorem Same.mono {n n' : Nat} {A B : World} (h : Same n A B) (hn : n' ≤ n) : Same n' A B := ⟨h.1, fun i hi => h.2 i (Nat.lt_of_lt_of_le hi hn)⟩
theorem Same.cell {n : Nat} {W W' : World} (h : Same n W W') {p : Addr} (hp : p.block < n) : W'.cell? p = W.cell? p := World.cell?_of_block (w := W) (h.2 p.block hp)
theorem ne_nil_of_lt {α : Type} {l : List α} {k : Nat} (h : k < l.length) : l ≠ [] := by intro e; simp [e] at h

/-- A list of spans lies in memory at block b, offset o; b lies below n. -/
structure SpansAt (n : Nat) (w : World) (b o : Nat) (a : Option Addr) (l : List Span) : Prop where
  len : l.length * 16 ≤ 140737488351232
  at_ : l ≠ [] → a = some ⟨b, o, none⟩
  lt : l ≠ [] → b < n
  lo : ∀ k (h : k < l.length), w.cell? ⟨b, o + k * 2, none⟩ = some (i64 l[k].lo)
  hi : ∀ k (h : k < l.length), w.cell? ⟨b, o + k * 2 + 1, none⟩ = some (i64 l[k].hi)
structure SoundsAt (n : Nat) (w : World) (b o : Nat) (a : Option Addr) (l : List Sound) : Prop where
  len : l.length * 24 ≤ 140737488351232
  at_ : l ≠ [] → a = some ⟨b, o, none⟩
  lt : l ≠ [] → b < n
  hour : ∀ k (h : k < l.length), w.cell? ⟨b, o + k * 3, none⟩ = some (i64 l[k].hour)
  shore : ∀ k (h : k < l.length), w.cell? ⟨b, o + k * 3 + 1, none⟩ = some (i64 l[k].shore)
  deep : ∀ k (h : k < l.length), w.cell? ⟨b, o + k * 3 + 2, none⟩ = some (i64 l[k].deep)
theorem SpansAt.same {n : Nat} {w w' : World} {b o a l} (h : SpansAt n w b o a l) (hb : Same n w w') : SpansAt n w' b o a l :=
  ⟨h.len, h.at_, h.lt, fun k hk => (hb.cell (p := ⟨b, _, none⟩) (h.lt (ne_nil_of_lt hk))).trans (h.lo k hk), fun k hk => (hb.cell (p := ⟨b, _, none⟩) (h.lt (ne_nil_of_lt hk))).trans (h.hi k hk)⟩
theorem SoundsAt.same {n : Nat} {w w' : World} {b o a l} (h : SoundsAt n w b o a l) (hb : Same n w w') : SoundsAt n w' b o a l :=
  ⟨h.len, h.at_, h.lt, fun k hk => (hb.cell (p := ⟨b, _, none⟩) (h.lt (ne_nil_of_lt hk))).trans (h.hour k hk), fun k hk => (hb.cell (p := ⟨b, _, none⟩) (h.lt (ne_nil_of_lt hk))).trans (h.shore k hk), fun k hk => (hb.cell (p := ⟨b, _, none⟩) (h.lt (ne_nil_of_lt hk))).trans (h.deep k hk)⟩
theorem SpansAt.up {n n' : Nat} {w : World} {b o a l} (h : SpansAt n w b o a l) (hn : n ≤ n') : SpansAt n' w b o a l := ⟨h.len, h.at_, fun x => Nat.lt_of_lt_of_le (h.lt x) hn, h.lo, h.hi⟩
theorem SoundsAt.up {n n' : Nat} {w : World} {b o a l} (h : SoundsAt n w b o a l) (hn : n ≤ n') : SoundsAt n' w b o a l := ⟨h.len, h.at_, fun x => Nat.lt_of_lt_of_le (h.lt x) hn, h.hour, h.shore, h.deep⟩
theorem bcell {W w1 : World} (hb : Below W.heap.size W w1) : (∀ b o, b < W.heap.size → w1.cell? ⟨b, o, none⟩ = W.cell? ⟨b, o, none⟩) ∧ (∀ b o, b < W.heap.size → w1.frozen? ⟨b, o, none⟩ = W.frozen? ⟨b, o, none⟩) :=
  ⟨fun b o h => hb.cell (p := ⟨b, o, none⟩) h, fun b o h => hb.frozen (p := ⟨b, o, none⟩) h⟩

theorem run_index {P : Program} {t e : TypeId} {n c k : Nat} {b o s : Nat} {a : Option Addr} (W : World) (ht : P.underlying t = some (.slice e)) (hs : (P.info? e).map (·.size) = some s) (ha : a = some ⟨b, o, none⟩) (hk : k < n) :
    (Instr.indexAt t (.slice a n c) (.int .i64 (k : Int))).run P W = .ok (.pointer (some ⟨b, o + k * s, none⟩)) W := by
  subst ha
  obtain ⟨i, he, hi⟩ := Option.map_eq_some_iff.1 hs
  simp [Instr.indexAt, asIntOf, run_underlying ht, Sem.run_bind, sizeOf, typeInfo, he, hi, Addr.add, hk]
theorem idx22 {n c k b o : Nat} {a : Option Addr} (W : World) (ha : a = some ⟨b, o, none⟩) (hk : k < n) : (Instr.indexAt 22 (.slice a n c) (.int .i64 (k : Int))).run Tryd.prog W = .ok (.pointer (some ⟨b, o + k * 2, none⟩)) W :=
  run_index W Tryd.underlying22 (by kernel_rfl) ha hk
theorem idx28 {n c k b o : Nat} {a : Option Addr} (W : World) (ha : a = some ⟨b, o, none⟩) (hk : k < n) : (Instr.indexAt 28 (.slice a n c) (.int .i64 (k : Int))).run Tryd.prog W = .ok (.pointer (some ⟨b, o + k * 3, none⟩)) W :=
  run_index W Tryd.underlying28 (by kernel_rfl) ha hk
theorem idx40 {n c k b o : Nat} {a : Option Addr} (W : World) (ha : a = some ⟨b, o, none⟩) (hk : k < n) : (Instr.indexAt 40 (.slice a n c) (.int .i64 (k : Int))).run Tryd.prog W = .ok (.pointer (some ⟨b, o + k, none⟩)) W := by
  have := run_index (s := 1) W Tryd.underlying40 (by kernel_rfl) ha hk (c := c)
  rwa [Nat.mul_one] at this
theorem idx91 {n c k b o : Nat} {a : Option Addr} (W : World) (ha : a = some ⟨b, o, none⟩) (hk : k < n) : (Instr.indexAt 91 (.slice a n c) (.int .i64 (k : Int))).run Tryd.prog W = .ok (.pointer (some ⟨b, o + k * 2, none⟩)) W :=
  run_index W Tryd.underlying91 (by kernel_rfl) ha hk
theorem ix27_0 (a b c d e f g h : Value) (w : World) : (Instr.index 27 (.agg #[a, b, c, d, e, f, g, h]) (.int .i64 0)).run Tryd.prog w = .ok (.agg #[a, b, c, d]) w := by kernel_rfl
theorem ix27_1 (a b c d e f g h : Value) (w : World) : (Instr.index 27 (.agg #[a, b, c, d, e, f, g, h]) (.int .i64 1)).run Tryd.prog w = .ok (.agg #[e, f, g, h]) w := by kernel_rfl
theorem ix99_0 (a b : Int) (w : World) : (Instr.index 99 (.agg #[i64 a, i64 b]) (.int .i64 0)).run Tryd.prog w = .ok (i64 a) w := by kernel_rfl
theorem ix99_1 (a b : Int) (w : World) : (Instr.index 99 (.agg #[i64 a, i64 b]) (.int .i64 1)).run Tryd.prog w = .ok (i64 b) w := by kernel_rfl
theorem all_take_succ {α : Type} (p : α → Bool) (l : List α) (k : Nat) (h : k < l.length) : (l.take (k + 1)).all p = ((l.take k).all p && p l[k]) := by
  rw [List.take_succ_eq_append_getElem h, List.all_append]; simp
end Go.Proofs.YtkbmpkdflgimmaaDoor
