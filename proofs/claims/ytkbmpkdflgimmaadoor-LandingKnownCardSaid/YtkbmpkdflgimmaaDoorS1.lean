/- Base, Small, QReg, PMap, RG, Right, Check in one text. (Printed by merge.py.) -/
import Derived.Test.YtkbmpkdflgimmaaDoorProg
import Derived.WalkKit
import Derived.WalkLawsBesides
import Derived.WalkSpells
import Derived.BigQuiet
import Derived.Lib.Hide
import Derived.Deep.DeepCutAuto
import Derived.KernelRfl
import Derived.Deep.Quiet
import Derived.Laws.StructEq
import Derived.MapKept
import Derived.Orders
import Derived.Deep.LoopGhost
namespace Go.Proofs.YtkbmpkdflgimmaaDoor
open Go.RowKit

structure Span where
  lo : Int
  hi : Int
structure Shore where
  fl : Int
  fh : Int
  lo : Int
  hi : Int
structure Sound where
  hour : Int
  shore : Int
  deep : Int
structure Book where
  tides : List Span
  s0 : Shore
  s1 : Shore
  el : Int
  eh : Int
  sink : Int
  under : Int
  sounds : List Sound

abbrev i64 (n : Int) : Value := .int .i64 n
abbrev bookCells (B : Book) (ta : Option Addr) (tc : Nat) (sa : Option Addr) (sc : Nat) : Array Value := #[.slice ta B.tides.length tc, i64 B.s0.fl, i64 B.s0.fh, i64 B.s0.lo, i64 B.s0.hi, i64 B.s1.fl, i64 B.s1.fh, i64 B.s1.lo, i64 B.s1.hi, i64 B.el, i64 B.eh, i64 B.sink, i64 B.under, .slice sa B.sounds.length sc]
abbrev bookVal (B : Book) (ta : Option Addr) (tc : Nat) (sa : Option Addr) (sc : Nat) : Value :=
  .agg #[.slice ta B.tides.length tc, i64 B.s0.fl, i64 B.s0.fh, i64 B.s0.lo, i64 B.s0.hi, i64 B.s1.fl, i64 B.s1.fh, i64 B.s1.lo, i64 B.s1.hi, i64 B.el, i64 B.eh, i64 B.sink, i64 B.under, .slice sa B.sounds.length sc]

/-- Below block number n the world W' is as W was. -/
def Same (n : Nat) (W W' : World) : Prop := W.heap.size ≤ W'.heap.size ∧ ∀ k, k < n → W'.heap[k]? = W.heap[k]?
theorem Same.of_below {n : Nat} {W W' : World} (h : Below n W W') : Same n W W' := ⟨h.size, h.block⟩
theorem Same.refl (n : Nat) (W : World) : Same n W W := ⟨Nat.le_refl _, fun _ _ => rfl⟩
theorem Same.trans {n : Nat} {A B C : World} (h : Same n A B) (k : Same n B C) : Same n A C := ⟨Nat.le_trans h.1 k.1, fun i hi => (k.2 i hi).trans (h.2 i hi)⟩
theorem Same.mono {n n' : Nat} {A B : World} (h : Same n A B) (hn : n' ≤ n) : Same n' A B := ⟨h.1, fun i hi => h.2 i (Nat.lt_of_lt_of_le hi hn)⟩
theorem Same.cell {n : Nat} {W W' : World} (h : Same n W W') {p : Addr} (hp : p.block < n) : W'.cell? p = W.cell? p := World.cell?_of_block (w := W) (h.2 p.block hp)
theorem ne_nil_of_lt {α : Type} {l : List α} {k : Nat} (h : k < l.length) : l ≠ [] := by intro e; simp [e] at h

/-- A list of spans lies in memory at block b, offset o; b lies below n. -/
structure SpansAt (n : Nat) (w : World) (b o : Nat) (a : Option Addr) (l : List Span) : Prop where
  len : l.length * 16 ≤ 140737488351232
  at_ : l ≠ [] → a = some ⟨b, o, none⟩
  lt : l ≠ [] → b < n
  lo : ∀ k (h : k < l.length), w.cell? ⟨b, o + k * 2, none⟩ = some (i64 l[k].lo)
  hi : ∀ k (h : k < l.length), w.cell? ⟨b, o + k * 2 + 1, none⟩ = some (i64 l[k].hi)
structure SoundsAt (n : Nat) (w : World) (b o : Nat) (a : Option Addr) (l : List Sound) : Prop where
  len : l.length * 24 ≤ 140737488351232
  at_ : l ≠ [] → a = some ⟨b, o, none⟩
  lt : l ≠ [] → b < n
  hour : ∀ k (h : k < l.length), w.cell? ⟨b, o + k * 3, none⟩ = some (i64 l[k].hour)
  shore : ∀ k (h : k < l.length), w.cell? ⟨b, o + k * 3 + 1, none⟩ = some (i64 l[k].shore)
  deep : ∀ k (h : k < l.length), w.cell? ⟨b, o + k * 3 + 2, none⟩ = some (i64 l[k].deep)
theorem SpansAt.same {n : Nat} {w w' : World} {b o a l} (h : SpansAt n w b o a l) (hb : Same n w w') : SpansAt n w' b o a l :=
  ⟨h.len, h.at_, h.lt, fun k hk => (hb.cell (p := ⟨b, _, none⟩) (h.lt (ne_nil_of_lt hk))).trans (h.lo k hk), fun k hk => (hb.cell (p := ⟨b, _, none⟩) (h.lt (ne_nil_of_lt hk))).trans (h.hi k hk)⟩
theorem SoundsAt.same {n : Nat} {w w' : World} {b o a l} (h : SoundsAt n w b o a l) (hb : Same n w w') : SoundsAt n w' b o a l :=
  ⟨h.len, h.at_, h.lt, fun k hk => (hb.cell (p := ⟨b, _, none⟩) (h.lt (ne_nil_of_lt hk))).trans (h.hour k hk), fun k hk => (hb.cell (p := ⟨b, _, none⟩) (h.lt (ne_nil_of_lt hk))).trans (h.shore k hk), fun k hk => (hb.cell (p := ⟨b, _, none⟩) (h.lt (ne_nil_of_lt hk))).trans (h.deep k hk)⟩
theorem SpansAt.up {n n' : Nat} {w : World} {b o a l} (h : SpansAt n w b o a l) (hn : n ≤ n') : SpansAt n' w b o a l := ⟨h.len, h.at_, fun x => Nat.lt_of_lt_of_le (h.lt x) hn, h.lo, h.hi⟩
theorem SoundsAt.up {n n' : Nat} {w : World} {b o a l} (h : SoundsAt n w b o a l) (hn : n ≤ n') : SoundsAt n' w b o a l := ⟨h.len, h.at_, fun x => Nat.lt_of_lt_of_le (h.lt x) hn, h.hour, h.shore, h.deep⟩
theorem bcell {W w1 : World} (hb : Below W.heap.size W w1) : (∀ b o, b < W.heap.size → w1.cell? ⟨b, o, none⟩ = W.cell? ⟨b, o, none⟩) ∧ (∀ b o, b < W.heap.size → w1.frozen? ⟨b, o, none⟩ = W.frozen? ⟨b, o, none⟩) :=
  ⟨fun b o h => hb.cell (p := ⟨b, o, none⟩) h, fun b o h => hb.frozen (p := ⟨b, o, none⟩) h⟩

theorem run_index {P : Program} {t e : TypeId} {n c k : Nat} {b o s : Nat} {a : Option Addr} (W : World) (ht : P.underlying t = some (.slice e)) (hs : (P.info? e).map (·.size) = some s) (ha : a = some ⟨b, o, none⟩) (hk : k < n) :
    (Instr.indexAt t (.slice a n c) (.int .i64 (k : Int))).run P W = .ok (.pointer (some ⟨b, o + k * s, none⟩)) W := by
  subst ha
  obtain ⟨i, he, hi⟩ := Option.map_eq_some_iff.1 hs
  simp [Instr.indexAt, asIntOf, run_underlying ht, Sem.run_bind, sizeOf, typeInfo, he, hi, Addr.add, hk]
theorem idx22 {n c k b o : Nat} {a : Option Addr} (W : World) (ha : a = some ⟨b, o, none⟩) (hk : k < n) : (Instr.indexAt 22 (.slice a n c) (.int .i64 (k : Int))).run Tryd.prog W = .ok (.pointer (some ⟨b, o + k * 2, none⟩)) W :=
  run_index W Tryd.underlying22 (by kernel_rfl) ha hk
theorem idx28 {n c k b o : Nat} {a : Option Addr} (W : World) (ha : a = some ⟨b, o, none⟩) (hk : k < n) : (Instr.indexAt 28 (.slice a n c) (.int .i64 (k : Int))).run Tryd.prog W = .ok (.pointer (some ⟨b, o + k * 3, none⟩)) W :=
  run_index W Tryd.underlying28 (by kernel_rfl) ha hk
theorem idx40 {n c k b o : Nat} {a : Option Addr} (W : World) (ha : a = some ⟨b, o, none⟩) (hk : k < n) : (Instr.indexAt 40 (.slice a n c) (.int .i64 (k : Int))).run Tryd.prog W = .ok (.pointer (some ⟨b, o + k, none⟩)) W := by
  have := run_index (s := 1) W Tryd.underlying40 (by kernel_rfl) ha hk (c := c)
  rwa [Nat.mul_one] at this
theorem idx91 {n c k b o : Nat} {a : Option Addr} (W : World) (ha : a = some ⟨b, o, none⟩) (hk : k < n) : (Instr.indexAt 91 (.slice a n c) (.int .i64 (k : Int))).run Tryd.prog W = .ok (.pointer (some ⟨b, o + k * 2, none⟩)) W :=
  run_index W Tryd.underlying91 (by kernel_rfl) ha hk
theorem ix27_0 (a b c d e f g h : Value) (w : World) : (Instr.index 27 (.agg #[a, b, c, d, e, f, g, h]) (.int .i64 0)).run Tryd.prog w = .ok (.agg #[a, b, c, d]) w := by kernel_rfl
theorem ix27_1 (a b c d e f g h : Value) (w : World) : (Instr.index 27 (.agg #[a, b, c, d, e, f, g, h]) (.int .i64 1)).run Tryd.prog w = .ok (.agg #[e, f, g, h]) w := by kernel_rfl
theorem ix99_0 (a b : Int) (w : World) : (Instr.index 99 (.agg #[i64 a, i64 b]) (.int .i64 0)).run Tryd.prog w = .ok (i64 a) w := by kernel_rfl
theorem ix99_1 (a b : Int) (w : World) : (Instr.index 99 (.agg #[i64 a, i64 b]) (.int .i64 1)).run Tryd.prog w = .ok (i64 b) w := by kernel_rfl
theorem all_take_succ {α : Type} (p : α → Bool) (l : List α) (k : Nat) (h : k < l.length) : (l.take (k + 1)).all p = ((l.take k).all p && p l[k]) := by
  rw [List.take_succ_eq_append_getElem h, List.all_append]; simp
end Go.Proofs.YtkbmpkdflgimmaaDoor
/- Contracts of the small functions of the package: within, isSpan, isHour, isShore, isLoad. -/
namespace Go.Proofs.YtkbmpkdflgimmaaDoor
open Go.RowKit

def inB (n lo hi : Int) : Bool := decide (lo ≤ n) && decide (n ≤ hi)
theorem within_any (n lo hi : Int) (w : World) :
    Calls Tryd.prog 80 #[.int .i64 n, .int .i64 lo, .int .i64 hi] w fun e w' => e = .returned (.bool (inB n lo hi)) ∧ w = w' := by
  by_cases h1 : lo ≤ n
  · go_enter Tryd.func80, Tryd.ntmps80
    go_wp2
    go_ret
    simp [inB, h1]
  · go_enter Tryd.func80, Tryd.ntmps80
    go_wp2
    go_ret
    simp [inB]
    omega

def spanB (a b lo hi : Int) : Bool := decide (lo ≤ a) && (decide (a ≤ b) && (decide (b ≤ hi) && decide (b - a ≤ 4)))
def SpanPost (a b lo hi : Int) (w : World) (e : Ending) (w' : World) : Prop := e = .returned (.bool (spanB a b lo hi)) ∧ Below w.heap.size w w'
theorem isSpan_any (a b lo hi : Int) (w : World) (h1 : -1000 ≤ lo) (h2 : hi ≤ 1000) :
    Calls Tryd.prog 81 #[.agg #[.int .i64 a, .int .i64 b], .int .i64 lo, .int .i64 hi] w (SpanPost a b lo hi w) := by
  go_enter Tryd.func81, Tryd.ntmps81
  go_wp2
  all_goals
    refine bodyPost_ret (results_tmp rfl _ _ _) rfl ⟨?_, (Below.refl _ _).alloc (Nat.le_refl _) _⟩
    simp [spanB]
    first | omega | (simp [*]; done) | (trace_state; simp [*]; omega)
theorem isShore_any (n : Int) (w : World) :
    Calls Tryd.prog 76 #[.int .i64 n] w fun e w' => e = .returned (.bool (inB n 0 1)) ∧ w = w' := by
  go_enter Tryd.func76, Tryd.ntmps76
  go_wp2_with (go_at_call 80; refine (within_any _ _ _ _).mono ?_; rintro e w' ⟨rfl, rfl⟩)
  go_ret
  exact ⟨rfl, rfl⟩
theorem isLoad_any (n : Int) (w : World) :
    Calls Tryd.prog 77 #[.int .i64 n] w fun e w' => e = .returned (.bool (inB n 0 200)) ∧ w = w' := by
  go_enter Tryd.func77, Tryd.ntmps77
  go_wp2_with (go_at_call 80; refine (within_any _ _ _ _).mono ?_; rintro e w' ⟨rfl, rfl⟩)
  go_ret
  exact ⟨rfl, rfl⟩
theorem isHour_any (B : Book) (ta : Option Addr) (tc : Nat) (sa : Option Addr) (sc : Nat) (n : Int) (w : World) (hl : B.tides.length * 16 ≤ 140737488351232) :
    Calls Tryd.prog 73 #[bookVal B ta tc sa sc, .int .i64 n] w fun e w' => e = .returned (.bool (inB n 0 ((B.tides.length : Int) - 1))) ∧ Below w.heap.size w w' := by
  go_enter Tryd.func73, Tryd.ntmps73
  go_wp2_with (go_at_call 80; refine (within_any _ _ _ _).mono ?_; rintro e w' ⟨rfl, rfl⟩)
  go_ret
  exact ⟨rfl, (Below.refl _ _).alloc (Nat.le_refl _) _⟩
end Go.Proofs.YtkbmpkdflgimmaaDoor
/- Regions that draw their order, walked once, in the order of the text: under a class of worlds. -/
namespace Go.Proofs.YtkbmpkdflgimmaaDoor
open Go.RowKit
section
variable {P : Program} {C : World → Prop} {Q : Exit → Act → World → Prop} {K : Act → Prop} {a : Act} {ops : Array Oper} {o : Oper} {rest : List Oper}
theorem q_region {id : Nat} {l : List Oper} {w : World} (C : World → Prop) (hm : P.follows .mixedOrders = true) (hB : Region.lexB .any l.toArray = true) (hC : ∀ n, C { w with drawn := n })
    (h : wpQuiet P l.toArray C (fun a' => ∀ w', C w' → Q .normal a' w') l a) : (Code.region id l.toArray true).wp P Q a w :=
  wp_region_quiet hm hB (hC _) (by simpa using h)
/-- An operation that yields one value in every world of the class. -/
theorem q_val (hw : Region.wanted o (yielded ops a.tmps) = true) (h : ∃ v, (∀ w, C w → (execOp a.eval o).run P w = .ok (.value v) w) ∧ wpQuiet P ops C K rest (a.put o.dst v)) : wpQuiet P ops C K (o :: rest) a := by
  obtain ⟨v, h1, h2⟩ := h
  simp only [wpQuiet, hw, if_true]
  exact ⟨v, fun w hC => by simp [Oper.quietAt, h1 w hC, Oper.quietUpon], h2⟩
/-- A call that hands back one value in every world of the class, and leaves one of it. -/
theorem q_call (hw : Region.wanted o (yielded ops a.tmps) = true) (v : Value) (f : FuncId) (args : Array Value) (h : ∀ w, C w → (execOp a.eval o).run P w = .ok (.enter f args) w)
    (hc : ∀ w, C w → Calls P f args w fun e w' => e = .returned v ∧ C w') (hn : wpQuiet P ops C K rest (a.put o.dst v)) : wpQuiet P ops C K (o :: rest) a := by
  simp only [wpQuiet, hw, if_true]
  exact ⟨v, fun w hC => by simp only [Oper.quietAt, h w hC, Oper.quietUpon]; exact ⟨trivial, hc w hC⟩, hn⟩
theorem q_skip (hw : Region.wanted o (yielded ops a.tmps) = false) (hn : wpQuiet P ops C K rest (a.put o.dst undef)) : wpQuiet P ops C K (o :: rest) a := by
  simp only [wpQuiet, hw]
  exact hn
end
end Go.Proofs.YtkbmpkdflgimmaaDoor
/- The map from places to depths: what looking up, entering and storing do to it. -/
namespace Go.Proofs.YtkbmpkdflgimmaaDoor
open Go.RowKit

abbrev placeV (h s : Int) : Value := .agg #[i64 h, i64 s]
theorem fields107 : Tryd.prog.fieldsOf 107 = #[{ name := "hour", type := 3, offset := 0, embedded := false, tag := "", pkgPath := "prow/landing", byteOffset := 0 }, { name := "shore", type := 3, offset := 1, embedded := false, tag := "", pkgPath := "prow/landing", byteOffset := 8 }] := by kernel_rfl
theorem part3 (a b : Int) (w : World) : (part 3 #[i64 a, i64 b] 0).run Tryd.prog w = .ok (i64 a) w := by kernel_rfl
theorem part3' (a b : Int) (w : World) : (part 3 #[i64 a, i64 b] 1).run Tryd.prog w = .ok (i64 b) w := by kernel_rfl
theorem stood107 : Tryd.prog.stoodInHeld 107 = false := by kernel_rfl
theorem run_placeEqIn (n : Nat) (a b c d : Int) (w : World) : (Op.equalIn (n + 2) 107 (placeV a b) (placeV c d)).run Tryd.prog w = .ok (a == c && b == d) w := by
  have h0 := run_equalIn_struct (P := Tryd.prog) w (n + 1) 107 #[i64 a, i64 b] #[i64 c, i64 d] (by rw [fields107]; exact Tryd.underlying107) stood107
  rw [fields107] at h0
  refine h0.trans ?_
  have h1 := run_equalIn_int (P := Tryd.prog) w n 3 .i64 .i64 a c Tryd.underlying3
  have h2 := run_equalIn_int (P := Tryd.prog) w n 3 .i64 .i64 b d Tryd.underlying3
  cases e1 : (a == c) <;> cases e2 : (b == d) <;> simp [Op.eqFields, part3, part3', Sem.run_bind, h1, h2, e1, e2]
theorem run_placeEq (a b c d : Int) (w : World) : (Op.equal 107 (placeV a b) (placeV c d)).run Tryd.prog w = .ok (a == c && b == d) w :=
  run_placeEqIn 9998 a b c d w
theorem run_check107 (e : Bool) (a b : Int) (w : World) : (Instr.checkKey e 10000 107 (placeV a b)).run Tryd.prog w = .ok () w := by
  kernel_rfl

/-- The entries of a map of places: in the order in which they came. -/
structure PE where
  h : Int
  s : Int
  v : Value
def ent (p : PE) (i : Nat) : MapEntry := { key := placeV p.h p.s, val := p.v, born := i }
def ents (M : List PE) : List MapEntry := M.zipIdx.map fun x => ent x.1 x.2
/-- The first entry of a place. -/
def findP (h s : Int) : List PE → Nat → Option (Nat × Value)
  | [], _ => none
  | p :: l, i => if h == p.h && s == p.s then some (i, p.v) else findP h s l (i + 1)
theorem run_findAsking (h s : Int) (w : World) : ∀ (M : List PE) (k i : Nat), (Instr.findAsking 107 (placeV h s) ((M.zipIdx k).map fun x => ent x.1 x.2) i).run Tryd.prog w = .ok (findP h s M i) w
  | [], _, _ => by simp [Instr.findAsking, findP]
  | p :: M, k, i => by
    simp only [List.zipIdx_cons, List.map_cons, Instr.findAsking, findP, ent, Sem.run_bind, run_placeEq, Result.andThen_ok]
    cases hc : (h == p.h && s == p.s)
    · simpa [ent] using run_findAsking h s w M (k + 1) (i + 1)
    · simp
theorem run_findKey107 (h s : Int) (M : List PE) (w : World) : (Instr.findKey 107 (placeV h s) (ents M)).run Tryd.prog w = .ok (findP h s M 0) w := by
  unfold Instr.findKey
  rw [Sem.run_bind, run_underlying Tryd.underlying107 w]
  simp only [Result.andThen_ok]
  cases M with
  | nil => simp [ents, Instr.findNow, findP]
  | cons p M =>
    simp only [ents, List.zipIdx_cons, List.map_cons, Instr.findNow, ent, Instr.sameNow]
    have := run_findAsking h s w (p :: M) 0 0
    simpa [List.zipIdx_cons, ent] using this
def lookV (h s : Int) (M : List PE) : Value := ((findP h s M 0).map (·.2)).getD (.slice none 0 0)
/-- Block m is the map of these entries. -/
def MapAt (W : World) (m : Nat) (M : List PE) : Prop := W.heap[m]? = some (.map (ents M).toArray M.length)
theorem zero40 (w : World) : (zeroValue 40).run Tryd.prog w = .ok (.slice none 0 0) w := by kernel_rfl
theorem run_lookup90 {W : World} {m : Nat} {M : List PE} (hm : MapAt W m M) (h s : Int) : (Instr.lookup 90 (.map (some m)) (placeV h s) false).run Tryd.prog W = .ok (lookV h s M) W := by
  unfold Instr.lookup
  rw [Sem.run_bind, run_underlying Tryd.underlying90 W]
  simp only [Result.andThen_ok, Sem.run_bind, MapKept.run_getObj_map hm, Sem.run_pure, run_check107, run_findKey107, lookV]
  cases findP h s M 0 with
  | none => simp
  | some x => simp
/-- A slice of whole numbers, in a block below n. -/
structure IntsAt (n : Nat) (W : World) (b o : Nat) (a : Option Addr) (l : List Int) : Prop where
  len : l.length * 8 ≤ 140737488351232
  at_ : l ≠ [] → a = some ⟨b, o, none⟩
  lt : l ≠ [] → b < n
  cell : ∀ k (h : k < l.length), W.cell? ⟨b, o + k, none⟩ = some (i64 l[k])
theorem IntsAt.same {n : Nat} {w w' : World} {b o a l} (h : IntsAt n w b o a l) (hb : Same n w w') : IntsAt n w' b o a l :=
  ⟨h.len, h.at_, h.lt, fun k hk => (hb.cell (p := ⟨b, _, none⟩) (h.lt (ne_nil_of_lt hk))).trans (h.cell k hk)⟩
theorem IntsAt.up {n n' : Nat} {w : World} {b o a l} (h : IntsAt n w b o a l) (hn : n ≤ n') : IntsAt n' w b o a l :=
  ⟨h.len, h.at_, fun x => Nat.lt_of_lt_of_le (h.lt x) hn, h.cell⟩
def IntsIn (n : Nat) (W : World) (v : Value) (l : List Int) : Prop := ∃ b o a c, v = .slice a l.length c ∧ IntsAt n W b o a l
theorem IntsIn.same {n : Nat} {w w' : World} {v l} (h : IntsIn n w v l) (hb : Same n w w') : IntsIn n w' v l := by
  obtain ⟨b, o, a, c, hv, hi⟩ := h
  exact ⟨b, o, a, c, hv, hi.same hb⟩
theorem IntsIn.up {n n' : Nat} {w : World} {v l} (h : IntsIn n w v l) (hn : n ≤ n') : IntsIn n' w v l := by
  obtain ⟨b, o, a, c, hv, hi⟩ := h
  exact ⟨b, o, a, c, hv, hi.up hn⟩
/-- Block m is a map that gives D h s at each place; it and what it holds lie below n. -/
def MapIn (n : Nat) (W : World) (m : Nat) (D : Int → Int → List Int) : Prop := m < n ∧ ∃ M, MapAt W m M ∧ ∀ h s, IntsIn n W (lookV h s M) (D h s)
theorem MapIn.same {n : Nat} {w w' : World} {m D} (h : MapIn n w m D) (hb : Same n w w') : MapIn n w' m D := by
  obtain ⟨hm, M, hM, hi⟩ := h
  exact ⟨hm, M, (hb.2 m hm).trans hM, fun h s => (hi h s).same hb⟩
theorem MapIn.up {n n' : Nat} {w : World} {m D} (h : MapIn n w m D) (hn : n ≤ n') : MapIn n' w m D := by
  obtain ⟨hm, M, hM, hi⟩ := h
  exact ⟨Nat.lt_of_lt_of_le hm hn, M, hM, fun h s => (hi h s).up hn⟩
theorem MapIn.look {n : Nat} {w : World} {m D} (hm : MapIn n w m D) (h s : Int) : ∃ b o a c, (Instr.lookup 90 (.map (some m)) (placeV h s) false).run Tryd.prog w = .ok (.slice a (D h s).length c) w ∧ IntsAt n w b o a (D h s) := by
  obtain ⟨_, M, hM, hi⟩ := hm
  obtain ⟨b, o, a, c, hv, hI⟩ := hi h s
  exact ⟨b, o, a, c, by rw [run_lookup90 hM, hv], hI⟩
end Go.Proofs.YtkbmpkdflgimmaaDoor
/- A law for regions that draw their order: what each operation leaves is said by itself (G), and what others do afterwards does not undo it. -/
namespace Go.Proofs.YtkbmpkdflgimmaaDoor
open Go.RowKit

def slotOf (a : Act) (k : Nat) : Value := a.tmps.getD k undef
def valsOf (rd : Nat → List Nat) (i : Nat) (a : Act) : List Value := (rd i).map (slotOf a)
/-- The operations that come before operation o in every order. -/
def befores (o : Oper) : List Nat := (o.after.toList.filter fun e => Region.binds .any e).map (·.on)
structure RgFrame (l : List Oper) (a0 a : Act) : Prop where
  size : a.tmps.size = a0.tmps.size
  defers : a.defers = a0.defers
  slot : ∀ k, (l.all fun o => o.dst != some k) = true → slotOf a k = slotOf a0 k
def rgCheck (l : List Oper) (rd : Nat → List Nat) : Bool :=
  (List.range l.length).all fun i => match l[i]? with
    | none => true
    | some o => ((befores o).all fun j => decide (j < i)) && (List.range l.length).all fun k => match l[k]? with
      | none => true
      | some p => k == i || (match p.dst with | none => true | some d => !(rd i).contains d || (befores o).contains k)
def rgNeeds (l : List Oper) (pure : Nat → Bool) (i : Nat) : Bool := (List.range l.length).any fun k => k != i && !pure k && (match l[i]? with | none => true | some o => !(befores o).contains k)
section
variable {P : Program} {l : List Oper} {Q : Exit → Act → World → Prop} {a0 : Act} {w0 : World} {rd : Nat → List Nat} {pure : Nat → Bool} {G : Nat → List Value → World → Prop} {R : World → World → Prop}
/-- Operation i does what G says of it. -/
def RgStep (P : Program) (l : List Oper) (Q : Exit → Act → World → Prop) (rd : Nat → List Nat) (pure : Nat → Bool) (G : Nat → List Value → World → Prop) (R : World → World → Prop) (i : Nat) (o : Oper) (a : Act) (w : World) : Prop :=
  if Region.wanted o (yielded l.toArray a.tmps) = true then o.wp P a w (fun a' w' => ∃ v, a' = a.put o.dst v ∧ R w w' ∧ (pure i = true → w' = w) ∧ G i (valsOf rd i a') w') Q
  else G i (valsOf rd i (a.put o.dst undef)) w
structure RgInv (l : List Oper) (a0 : Act) (w0 : World) (rd : Nat → List Nat) (G : Nat → List Value → World → Prop) (R : World → World → Prop) (L : Array Bool) (a : Act) (w : World) : Prop where
  size : L.size = l.length
  closed : ∀ (i : Nat) o, l[i]? = some o → L[i]? = some true → ∀ j ∈ befores o, L[j]? = some true
  frame : RgFrame l a0 a
  rel : R w0 w
  has : ∀ (i : Nat), i < l.length → L[i]? = some true → G i (valsOf rd i a) w
theorem slotOf_put (a : Act) (d : Option Tmp) (v : Value) (k : Nat) (h : d ≠ some k) : slotOf (a.put d v) k = slotOf a k := by
  cases d with
  | none => rfl
  | some d =>
    have hne : d ≠ k := fun e => h (by rw [e])
    simp [slotOf, Act.put, Array.getD_eq_getD_getElem?, hne]
theorem RgFrame.put {a : Act} {o : Oper} (h : RgFrame l a0 a) (ho : o ∈ l) (v : Value) : RgFrame l a0 (a.put o.dst v) := by
  refine ⟨?_, ?_, fun k hk => ?_⟩
  · cases hd : o.dst with
    | none => simpa [Act.put] using h.size
    | some d => simpa [Act.put] using h.size
  · cases hd : o.dst with
    | none => simpa [Act.put] using h.defers
    | some d => simpa [Act.put] using h.defers
  · have := List.all_eq_true.1 hk o ho
    rw [slotOf_put _ _ _ _ (by simpa using this)]
    exact h.slot k hk
theorem countP_lt {m : List Nat} {p q : Nat → Bool} (h : ∀ x, q x = true → p x = true) (x : Nat) (hx : x ∈ m) (hp : p x = true) (hq : q x = false) : m.countP q < m.countP p := by
  induction m with
  | nil => cases hx
  | cons y m ih =>
    have hle : m.countP q ≤ m.countP p := List.countP_mono_left fun z _ => h z
    simp only [List.countP_cons]
    rcases List.mem_cons.1 hx with rfl | hx
    · simp [hp, hq]; omega
    · have := ih hx
      cases hqy : q y
      · simp; omega
      · have := h y hqy; simp [this]; omega
def unlisted (n : Nat) (L : Array Bool) : Nat := (List.range n).countP fun i => L[i]? == some false
theorem unlisted_set {n : Nat} {L : Array Bool} {i : Nat} (hi : i < n) (h : L[i]? = some false) : unlisted n (L.setIfInBounds i true) < unlisted n L := by
  refine countP_lt (fun x hx => ?_) i (List.mem_range.2 hi) (by simp [h]) ?_
  · rw [Array.getElem?_setIfInBounds] at hx
    split at hx
    · split at hx <;> simp at hx
    · exact hx
  · have hlt : i < L.size := (Array.getElem?_eq_some_iff.1 h).1
    simp [hlt]
theorem rg_step_inv {L : Array Bool} {a : Act} {w w' : World} {i : Nat} {o : Oper} {v : Value} (hck : rgCheck l rd = true) (hRt : ∀ A B C, R A B → R B C → R A C)
    (hstab : ∀ i, rgNeeds l pure i = true → ∀ vs w w', G i vs w → R w w' → G i vs w') (hI : RgInv l a0 w0 rd G R L a w) (ho : l[i]? = some o) (hun : L[i]? = some false)
    (hbef : ∀ j ∈ befores o, L[j]? = some true) (hR : R w w') (hp : pure i = true → w' = w) (hG : G i (valsOf rd i (a.put o.dst v)) w') : RgInv l a0 w0 rd G R (L.setIfInBounds i true) (a.put o.dst v) w' := by
  have hil : i < l.length := (List.getElem?_eq_some_iff.1 ho).1
  have hiL : i < L.size := by rw [hI.size]; exact hil
  have hset : ∀ j, L[j]? = some true → (L.setIfInBounds i true)[j]? = some true := fun j hj => by
    rw [Array.getElem?_setIfInBounds]
    split
    · simp
    · exact hj
  have hback : ∀ j, j ≠ i → (L.setIfInBounds i true)[j]? = some true → L[j]? = some true := fun j hne hj => by
    rw [Array.getElem?_setIfInBounds, if_neg (Ne.symm hne)] at hj
    exact hj
  refine ⟨by simpa using hI.size, fun k p hp' hk j hj => ?_, hI.frame.put (List.mem_of_getElem? ho) v, hRt _ _ _ hI.rel hR, fun k hk hkl => ?_⟩
  · by_cases hki : k = i
    · subst hki
      rw [ho] at hp'
      cases hp'
      exact hset j (hbef j hj)
    · exact hset j (hI.closed k p hp' (hback k hki hk) j hj)
  · by_cases hki : k = i
    · subst hki; exact hG
    · have hkL := hback k hki hkl
      have hold := hI.has k hk hkL
      obtain ⟨p, hpk⟩ : ∃ p, l[k]? = some p := ⟨_, List.getElem?_eq_getElem hk⟩
      have hnb : ¬ i ∈ befores p := fun hm => by
        have := hI.closed k p hpk hkL i hm
        rw [hun] at this
        cases this
      have hc := List.all_eq_true.1 hck k (List.mem_range.2 hk)
      simp only [hpk, Bool.and_eq_true] at hc
      have hc2 := List.all_eq_true.1 hc.2 i (List.mem_range.2 hil)
      simp only [ho] at hc2
      have hvals : valsOf rd k (a.put o.dst v) = valsOf rd k a := by
        unfold valsOf
        refine List.map_congr_left fun x hx => slotOf_put a o.dst v x (fun e => ?_)
        rw [e] at hc2
        simp at hc2
        rcases hc2 with h | h | h
        · exact hki h.symm
        · exact h hx
        · exact hnb h
      rw [hvals]
      cases hpi : pure i
      · refine hstab k ?_ _ _ _ hold hR
        unfold rgNeeds
        rw [List.any_eq_true]
        refine ⟨i, List.mem_range.2 hil, ?_⟩
        simp only [hpk]
        simp [hpi, hnb]
        exact fun e => hki e.symm
      · rw [hp hpi]; exact hold
theorem rg_any (hck : rgCheck l rd = true) (hRr : ∀ A, R A A) (hRt : ∀ A B C, R A B → R B C → R A C) (hstab : ∀ i, rgNeeds l pure i = true → ∀ vs w w', G i vs w → R w w' → G i vs w')
    (hstep : ∀ (i : Nat) o, l[i]? = some o → ∀ a w, R w0 w → RgFrame l a0 a → (∀ j ∈ befores o, G j (valsOf rd j a) w) → RgStep P l Q rd pure G R i o a w)
    (hend : ∀ a w, R w0 w → RgFrame l a0 a → (∀ i, i < l.length → G i (valsOf rd i a) w) → Q .normal a w) :
    ∀ (fuel : Nat) (L : Array Bool) (a : Act) (w : World), unlisted l.length L ≤ fuel → RgInv l a0 w0 rd G R L a w → wpAny P .any l.toArray Q fuel L a w := by
  have done : ∀ (L : Array Bool) (a : Act) (w : World), RgInv l a0 w0 rd G R L a w → Region.ready .any l.toArray L = [] → Q .normal a w := fun L a w hI hr => by
    have hall : ∀ n, n ≤ l.length → ∀ i, i < n → L[i]? = some true := by
      intro n
      induction n with
      | zero => intro _ i h; omega
      | succ n ih =>
        intro hn i hi
        have hprev := ih (by omega)
        rcases Nat.lt_or_ge i n with h | h
        · exact hprev i h
        · obtain rfl : i = n := by omega
          have hlt : i < L.size := by rw [hI.size]; omega
          obtain ⟨o, ho⟩ : ∃ o, l[i]? = some o := ⟨_, List.getElem?_eq_getElem (by omega)⟩
          cases hb : L[i]? with
          | none => rw [Array.getElem?_eq_none_iff] at hb; omega
          | some b =>
            cases b with
            | true => rfl
            | false =>
              exfalso
              have hc := List.all_eq_true.1 hck i (List.mem_range.2 (by omega))
              simp only [ho, Bool.and_eq_true] at hc
              have : i ∈ Region.ready .any l.toArray L := by
                rw [mem_ready]
                refine ⟨by simp [Array.getD_eq_getD_getElem?, hb], o, by simpa using ho, fun e he hbd => ?_⟩
                have hm : e.on ∈ befores o := List.mem_map.2 ⟨e, List.mem_filter.2 ⟨by simpa using he, hbd⟩, rfl⟩
                have := List.all_eq_true.1 hc.1 _ hm
                have := hprev e.on (by simpa using this)
                simp [Array.getD_eq_getD_getElem?, this]
              rw [hr] at this
              cases this
    exact hend a w hI.rel hI.frame fun i hi => hI.has i hi (hall l.length (Nat.le_refl _) i hi)
  intro fuel
  induction fuel with
  | zero =>
    intro L a w hf hI
    have hr : Region.ready .any l.toArray L = [] := by
      cases hr : Region.ready .any l.toArray L with
      | nil => rfl
      | cons i rest =>
        have hi : i ∈ Region.ready .any l.toArray L := by rw [hr]; exact List.mem_cons_self ..
        obtain ⟨h1, o, ho, _⟩ := mem_ready.1 hi
        have hil : i < l.length := by
          have := (Array.getElem?_eq_some_iff.1 ho).1
          simpa using this
        have hf' : L[i]? = some false := by
          have hlt : i < L.size := by rw [hI.size]; exact hil
          simp [Array.getD_eq_getD_getElem?, hlt] at h1 ⊢
          exact h1
        have := unlisted_set hil hf'
        omega
    exact ⟨hr, done L a w hI hr⟩
  | succ fuel ih =>
    intro L a w hf hI
    refine ⟨done L a w hI, fun i hi => ?_⟩
    obtain ⟨h1, o, ho, hall⟩ := mem_ready.1 hi
    have ho' : l[i]? = some o := by simpa using ho
    have hil : i < l.length := (List.getElem?_eq_some_iff.1 ho').1
    have hun : L[i]? = some false := by
      have hlt : i < L.size := by rw [hI.size]; exact hil
      simp [Array.getD_eq_getD_getElem?, hlt] at h1 ⊢
      exact h1
    have hbef : ∀ j ∈ befores o, L[j]? = some true := fun j hj => by
      obtain ⟨e, he, rfl⟩ := List.mem_map.1 hj
      obtain ⟨he1, he2⟩ := List.mem_filter.1 he
      have := hall e (by simpa using he1) he2
      cases hx : L[e.on]? with
      | none => simp [Array.getD_eq_getD_getElem?, hx] at this
      | some b => simp [Array.getD_eq_getD_getElem?, hx] at this; rw [this]
    have hc := List.all_eq_true.1 hck i (List.mem_range.2 hil)
    simp only [ho', Bool.and_eq_true] at hc
    have hS := hstep i o ho' a w hI.rel hI.frame (fun j hj => hI.has j (by have := List.all_eq_true.1 hc.1 j hj; simp at this; omega) (hbef j hj))
    unfold RgStep at hS
    unfold wpOp
    simp only [ho]
    have next : ∀ v w', R w w' → (pure i = true → w' = w) → G i (valsOf rd i (a.put o.dst v)) w' → wpAny P .any l.toArray Q fuel (L.setIfInBounds i true) (a.put o.dst v) w' := fun v w' hR hp hG =>
      ih _ _ _ (by have := unlisted_set hil hun; omega) (rg_step_inv hck hRt hstab hI ho' hun hbef hR hp hG)
    split
    · rename_i hw
      rw [if_pos hw] at hS
      refine .inl (Oper.wp_mono (fun a' w' h => ?_) hS)
      obtain ⟨v, rfl, hR, hp, hG⟩ := h
      exact next v w' hR hp hG
    · rename_i hw
      rw [if_neg hw] at hS
      exact next undef w (hRr _) (fun _ => rfl) hS
/-- The law: each operation is shown once, whatever came before it but its own befores. -/
theorem rg_region {id : Nat} (rd : Nat → List Nat) (pure : Nat → Bool) (G : Nat → List Value → World → Prop) (R : World → World → Prop) (hm : P.follows .mixedOrders = true) (hck : rgCheck l rd = true)
    (hRd : ∀ n, R w0 { w0 with drawn := n }) (hRr : ∀ A, R A A) (hRt : ∀ A B C, R A B → R B C → R A C) (hstab : ∀ i, rgNeeds l pure i = true → ∀ vs w w', G i vs w → R w w' → G i vs w')
    (hstep : ∀ (i : Nat) o, l[i]? = some o → ∀ a w, R w0 w → RgFrame l a0 a → (∀ j ∈ befores o, G j (valsOf rd j a) w) → RgStep P l Q rd pure G R i o a w)
    (hend : ∀ a w, R w0 w → RgFrame l a0 a → (∀ i, i < l.length → G i (valsOf rd i a) w) → Q .normal a w) : (Code.region id l.toArray true).wp P Q a0 w0 := by
  refine wp_region_any hm (rg_any (w0 := w0) (a0 := a0) hck hRr hRt hstab hstep hend _ _ _ _ ?_ ?_)
  · unfold unlisted
    refine Nat.le_trans List.countP_le_length ?_
    simp
  · refine ⟨by simp, fun i o ho h => ?_, ⟨rfl, rfl, fun _ _ => rfl⟩, hRd _, fun i hi h => ?_⟩
    · rw [Array.getElem?_replicate] at h
      split at h <;> cases h
    · rw [Array.getElem?_replicate] at h
      split at h <;> cases h
end
end Go.Proofs.YtkbmpkdflgimmaaDoor
/- The contract of (book).right: whether all soundings of an hour are right, with a height and bottoms. -/
namespace Go.Proofs.YtkbmpkdflgimmaaDoor
open Go.RowKit

abbrev calcVal (B : Book) (ta : Option Addr) (tc : Nat) (sa : Option Addr) (sc : Nat) (m : Nat) (cv : Value) : Value :=
  .agg #[.slice ta B.tides.length tc, i64 B.s0.fl, i64 B.s0.fh, i64 B.s0.lo, i64 B.s0.hi, i64 B.s1.fl, i64 B.s1.fh, i64 B.s1.lo, i64 B.s1.hi, i64 B.el, i64 B.eh, i64 B.sink, i64 B.under, .slice sa B.sounds.length sc, .map (some m), cv]
abbrev calcCells (B : Book) (ta : Option Addr) (tc : Nat) (sa : Option Addr) (sc : Nat) (m : Nat) (cv : Value) : Array Value :=
  #[.slice ta B.tides.length tc, i64 B.s0.fl, i64 B.s0.fh, i64 B.s0.lo, i64 B.s0.hi, i64 B.s1.fl, i64 B.s1.fh, i64 B.s1.lo, i64 B.s1.hi, i64 B.el, i64 B.eh, i64 B.sink, i64 B.under, .slice sa B.sounds.length sc, .map (some m), cv]
def rightB (D : Int → Int → List Int) (hour h f0 f1 : Int) : Bool := (D hour 0).all (fun n => h - f0 == n) && (D hour 1).all (fun n => h - f1 == n)

set_option maxRecDepth 100000 in
set_option maxHeartbeats 1000000 in
theorem right_any (B : Book) (ta : Option Addr) (tc : Nat) (sa : Option Addr) (sc m : Nat) (can : Option Addr) (cn cc : Nat) (D : Int → Int → List Int) (hour h f0 f1 : Int) (n : Nat) (w : World)
    (hm : MapIn n w m D) (hn : n ≤ w.heap.size) (h1 : -1000 ≤ h) (h2 : h ≤ 1000) (h3 : -1000 ≤ f0) (h4 : f0 ≤ 1000) (h5 : -1000 ≤ f1) (h6 : f1 ≤ 1000) :
    Calls Tryd.prog 98 #[calcVal B ta tc sa sc m (.slice can cn cc), i64 hour, i64 h, .agg #[i64 f0, i64 f1]] w fun e w' => e = .returned (.bool (rightB D hour h f0 f1)) ∧ Below w.heap.size w w' := by
  have hmB := Lib.hid hm
  go_enter Tryd.func98, Tryd.ntmps98
  go_wp2_with fail
  have hB2 := ((Below.refl w.heap.size w).alloc (Nat.le_refl _) (.cells (calcCells B ta tc sa sc m (.slice can cn cc)) 93)).alloc (by simp) (.cells #[i64 f0, i64 f1] 99)
  have hm2 := hmB.out.same ((Same.of_below hB2).mono hn)
  clear hm
  go_loop [14] (fun i => ∃ k : Nat, k ≤ 2 ∧ i = .int .i64 k ∧ Hid ((0 < k → (D hour 0).all (fun n => h - f0 == n) = true) ∧ (1 < k → (D hour 1).all (fun n => h - f1 == n) = true))) (fun i => 2 - (intOf i).toNat)
  case atStart => exact ⟨0, by omega, rfl, by simp [Hid]⟩
  case round =>
    obtain ⟨k, hk, rfl, hdone⟩ := hrel
    rcases (by omega : k = 0 ∨ k = 1 ∨ k = 2) with rfl | rfl | rfl
    · have hi99 := ix99_0 f0 f1
      obtain ⟨b, o, a, c, hl, hI⟩ := hm2.look hour 0
      have hI1 := hI.len
      go_wp2_with fail
      go_loop [25] (fun i => ∃ j : Nat, j ≤ (D hour 0).length ∧ i = .int .i64 j ∧ Hid (((D hour 0).take j).all (fun n => h - f0 == n) = true)) (fun i => (D hour 0).length - (intOf i).toNat)
      case atStart => exact ⟨0, Nat.zero_le _, rfl, by simp [Hid]⟩
      case round =>
        obtain ⟨j, hj, rfl, hall⟩ := hrel
        by_cases hlt : j < (D hour 0).length
        · have hnn := ne_nil_of_lt hlt
          have hidx := idx40 (n := (D hour 0).length) (c := c) (k := j) ((w.alloc (.cells (calcCells B ta tc sa sc m (.slice can cn cc)) 93)).alloc (.cells #[i64 f0, i64 f1] 99)) (hI.at_ hnn) hlt
          have hc := hI.cell j hlt
          have hs := Lib.hid (all_take_succ (fun n => h - f0 == n) (D hour 0) j hlt)
          by_cases he : h - f0 = (D hour 0)[j]
          · have he' : ((h - f0 != (D hour 0)[j]) = false) := by simp [he]
            have he := Lib.hid he
            go_wp2_with fail
            go_round
            case rel => exact ⟨j + 1, by omega, by go_num, by show _ = _; rw [hs.out, hall.out]; simp [he.out]⟩
            case measure => simp [intOf]; omega
          · have he' : ((h - f0 != (D hour 0)[j]) = true) := by simp [he]
            have he := Lib.hid he
            have fin : Hid (rightB D hour h f0 f1 = false) := by
              show _ = _
              have : (D hour 0).all (fun n => h - f0 == n) = false := by
                rw [List.all_eq_false]
                exact ⟨(D hour 0)[j], List.getElem_mem _, by simpa using he.out⟩
              simp [rightB, this]
            go_wp2_with fail
            go_ret
            exact ⟨by rw [fin.out]; rfl, hB2⟩
        · have hj' : j = (D hour 0).length := by omega
          subst hj'
          rw [List.take_length] at hall
          go_wp2_with fail
          go_round
          case rel => exact ⟨1, by omega, rfl, by refine ⟨fun _ => hall.out, by omega⟩⟩
          case measure => simp [intOf]
    · have hi99 := ix99_1 f0 f1
      obtain ⟨b, o, a, c, hl, hI⟩ := hm2.look hour 1
      have hI1 := hI.len
      go_wp2_with fail
      go_loop [25] (fun i => ∃ j : Nat, j ≤ (D hour 1).length ∧ i = .int .i64 j ∧ Hid (((D hour 1).take j).all (fun n => h - f1 == n) = true)) (fun i => (D hour 1).length - (intOf i).toNat)
      case atStart => exact ⟨0, Nat.zero_le _, rfl, by simp [Hid]⟩
      case round =>
        obtain ⟨j, hj, rfl, hall⟩ := hrel
        by_cases hlt : j < (D hour 1).length
        · have hnn := ne_nil_of_lt hlt
          have hidx := idx40 (n := (D hour 1).length) (c := c) (k := j) ((w.alloc (.cells (calcCells B ta tc sa sc m (.slice can cn cc)) 93)).alloc (.cells #[i64 f0, i64 f1] 99)) (hI.at_ hnn) hlt
          have hc := hI.cell j hlt
          have hs := Lib.hid (all_take_succ (fun n => h - f1 == n) (D hour 1) j hlt)
          by_cases he : h - f1 = (D hour 1)[j]
          · have he' : ((h - f1 != (D hour 1)[j]) = false) := by simp [he]
            have he := Lib.hid he
            go_wp2_with fail
            go_round
            case rel => exact ⟨j + 1, by omega, by go_num, by show _ = _; rw [hs.out, hall.out]; simp [he.out]⟩
            case measure => simp [intOf]; omega
          · have he' : ((h - f1 != (D hour 1)[j]) = true) := by simp [he]
            have he := Lib.hid he
            have fin : Hid (rightB D hour h f0 f1 = false) := by
              show _ = _
              have : (D hour 1).all (fun n => h - f1 == n) = false := by
                rw [List.all_eq_false]
                exact ⟨(D hour 1)[j], List.getElem_mem _, by simpa using he.out⟩
              simp [rightB, this]
            go_wp2_with fail
            go_ret
            exact ⟨by rw [fin.out]; rfl, hB2⟩
        · have hj' : j = (D hour 1).length := by omega
          subst hj'
          rw [List.take_length] at hall
          go_wp2_with fail
          go_round
          case rel => exact ⟨2, by omega, rfl, by refine ⟨fun _ => hdone.out.1 (by omega), fun _ => hall.out⟩⟩
          case measure => simp [intOf]
    · have fin : Hid (rightB D hour h f0 f1 = true) := by
        show _ = _
        simp [rightB, hdone.out.1 (by omega), hdone.out.2 (by omega)]
      go_wp2_with fail
      go_ret
      exact ⟨by rw [fin.out]; rfl, hB2⟩
end Go.Proofs.YtkbmpkdflgimmaaDoor
/- The contract of Check: whether a book is valid. -/
namespace Go.Proofs.YtkbmpkdflgimmaaDoor
open Go.RowKit

def spanOk (s : Span) : Bool := spanB s.lo s.hi (-40) 80
def shoreOk (x : Shore) : Bool := spanB x.fl x.fh (-40) 80 && (inB x.lo (-40) x.hi && decide (x.hi ≤ 80))
def soundOk (n : Nat) (x : Sound) : Bool := inB x.hour 0 ((n : Int) - 1) && (inB x.shore 0 1 && inB x.deep 0 120)
def hdrB (B : Book) : Bool := inB B.tides.length 1 24 && (spanB B.el B.eh 0 40 && (inB B.sink 1 20 && (inB B.under 0 10 && decide ((B.sounds.length : Int) ≤ 6))))
def Book.valid (B : Book) : Bool := hdrB B && B.tides.all spanOk && shoreOk B.s0 && shoreOk B.s1 && B.sounds.all (soundOk B.tides.length)
def checkE (B : Book) : Int := if B.valid then 0 else 20

def shK (B : Book) : Nat → Bool
  | 0 => true
  | 1 => shoreOk B.s0
  | _ => shoreOk B.s0 && shoreOk B.s1
/-- What a function that boxes the book knows of its box. -/
def Box (B : Book) (ta : Option Addr) (tc : Nat) (sa : Option Addr) (sc : Nat) (w wx : World) : Prop := Below w.heap.size w wx ∧ w.heap.size < wx.heap.size ∧ (∀ j, wx.cell? ⟨w.heap.size, j, none⟩ = (bookCells B ta tc sa sc)[j]?)
theorem Box.more {B ta tc sa sc w wx wy} (h : Box B ta tc sa sc w wx) (hb : Below wx.heap.size wx wy) : Box B ta tc sa sc w wy :=
  ⟨h.1.trans (hb.mono h.1.size), Nat.lt_of_lt_of_le h.2.1 hb.size, fun j => (hb.cell (p := ⟨_, j, none⟩) h.2.1).trans (h.2.2 j)⟩
theorem Box.new (B : Book) (ta : Option Addr) (tc : Nat) (sa : Option Addr) (sc : Nat) (w : World) : Box B ta tc sa sc w (w.alloc (.cells (bookCells B ta tc sa sc) 30)) :=
  ⟨(Below.refl _ _).alloc (Nat.le_refl _) _, by simp, fun j => by simp [World.cell?_alloc_new]⟩

theorem und22 : Tryd.prog.underlying 22 = some (.slice 24) := Tryd.underlying22


set_option maxRecDepth 100000 in
set_option maxHeartbeats 1000000 in
theorem check_any (B : Book) (tb tq : Nat) (ta : Option Addr) (tc : Nat) (sb sq : Nat) (sa : Option Addr) (sc : Nat) (w : World) (hT : SpansAt w.heap.size w tb tq ta B.tides) (hS : SoundsAt w.heap.size w sb sq sa B.sounds) :
    Calls Tryd.prog 43 #[bookVal B ta tc sa sc] w fun e w' => e = .returned (.int .i64 (checkE B)) ∧ Below w.heap.size w w' := by
  have hT1 := hT.1
  have hS1 := hS.1
  go_enter Tryd.func43, Tryd.ntmps43
  go_upto_region 1 with fail
  go_cut [3] (fun s3 wx => s3 = .bool (hdrB B) ∧ Box B ta tc sa sc w wx)
  case first =>
    have hX := Box.new B ta tc sa sc w
    go_wp2_with (first | (go_at_call 80; refine (within_any _ _ _ _).mono ?_; rintro e w' ⟨rfl, rfl⟩) | (go_at_call 81; refine (isSpan_any _ _ _ _ _ (by omega) (by omega)).mono ?_; rintro e w' ⟨rfl, hb⟩; have hX := hX.more hb; obtain ⟨hc, hf⟩ := bcell hb; have hz : w.heap.size + 1 < w'.heap.size + 1 := by have := hb.size; simp at this; omega))
    all_goals
      go_meet
      case rel => exact ⟨by simp [hdrB, *], by assumption⟩
  case rest =>
    obtain ⟨rfl, hX⟩ := hcut
    generalize hh : hdrB B = h0
    have hh := Lib.hid hh
    obtain ⟨_, hz, hc⟩ := id hX
    go_wp2_with fail
    go_loopw [3, 38] (fun ok i wr => ∃ k : Nat, k ≤ B.tides.length ∧ i = .int .i64 k ∧ ok = .bool (h0 && (B.tides.take k).all spanOk) ∧ Box B ta tc sa sc w wr) (fun _ i _ => B.tides.length - (intOf i).toNat)
    case atStart => exact ⟨0, Nat.zero_le _, rfl, by simp, hX⟩
    case round =>
      clear hX hz hc
      obtain ⟨k, hk, rfl, rfl, hX⟩ := hrel
      obtain ⟨hW, hz, hc⟩ := id hX
      by_cases hlt : k < B.tides.length
      · have hn := ne_nil_of_lt hlt
        have hidx := idx22 (n := B.tides.length) (c := tc) (k := k) wr (hT.at_ hn) hlt
        have c0 : wr.cell? ⟨tb, tq + k * 2, none⟩ = some (i64 B.tides[k].lo) := (hW.cell (p := ⟨tb, _, none⟩) (hT.lt hn)).trans (hT.lo k hlt)
        have c1 : wr.cell? ⟨tb, tq + k * 2 + 1, none⟩ = some (i64 B.tides[k].hi) := (hW.cell (p := ⟨tb, _, none⟩) (hT.lt hn)).trans (hT.hi k hlt)
        have hs := Lib.hid (all_take_succ spanOk B.tides k hlt)
        have hA := (Below.refl wr.heap.size wr).alloc (Nat.le_refl _) (.cells #[i64 B.tides[k].lo, i64 B.tides[k].hi] 24)
        cases hok : (h0 && (B.tides.take k).all spanOk)
        · have hok := Lib.hid hok
          go_wp2_with fail
          go_roundw
          case rel => exact ⟨k + 1, by omega, by go_num, by rw [hs.out, ← Bool.and_assoc, hok.out]; rfl, hX.more hA⟩
          case measure => simp [intOf]; omega
        · have hok := Lib.hid hok
          go_wp2_with (go_at_call 81; refine (isSpan_any _ _ _ _ _ (by omega) (by omega)).mono ?_; rintro e w' ⟨rfl, hb⟩)
          go_roundw
          case rel => exact ⟨k + 1, by omega, by go_num, by rw [hs.out, ← Bool.and_assoc, hok.out]; rfl, (hX.more hA).more (by assumption)⟩
          case measure => simp [intOf]; omega
      · have hk' : k = B.tides.length := by omega
        subst hk'
        rw [List.take_length]
        generalize h1 : (h0 && B.tides.all spanOk) = ok1
        have h1 := Lib.hid h1
        go_wp2_with fail
        go_loopw [3, 50] (fun ok i wr => ∃ k : Nat, k ≤ 2 ∧ i = .int .i64 k ∧ ok = .bool (ok1 && shK B k) ∧ Box B ta tc sa sc w wr) (fun _ i _ => 2 - (intOf i).toNat)
        case atStart => exact ⟨0, by omega, rfl, by simp [shK], hX⟩
        case round =>
          clear hX hz hc hW
          obtain ⟨k, hk, rfl, rfl, hX⟩ := hrel
          obtain ⟨hW, hz, hc⟩ := id hX
          rcases (by omega : k = 0 ∨ k = 1 ∨ k = 2) with rfl | rfl | rfl
          · rw [show shK B 0 = true from rfl, Bool.and_true]
            have hX := hX.more ((Below.refl wr.heap.size wr).alloc (Nat.le_refl _) (.cells #[i64 B.s0.fl, i64 B.s0.fh, i64 B.s0.lo, i64 B.s0.hi] 26))
            have hi := ix27_0 (i64 B.s0.fl) (i64 B.s0.fh) (i64 B.s0.lo) (i64 B.s0.hi) (i64 B.s1.fl) (i64 B.s1.fh) (i64 B.s1.lo) (i64 B.s1.hi)
            go_wp2_with (first | (go_at_call 80; refine (within_any _ _ _ _).mono ?_; rintro e w' ⟨rfl, rfl⟩) | (go_at_call 81; refine (isSpan_any _ _ _ _ _ (by omega) (by omega)).mono ?_; rintro e w' ⟨rfl, hb⟩; have hX := hX.more hb; obtain ⟨hc1, hf1⟩ := bcell hb))
            all_goals
              go_roundw
              case rel => exact ⟨1, by omega, rfl, by simp [shK, shoreOk, *], by assumption⟩
              case measure => simp [intOf]
          · generalize hq : (ok1 && shK B 1) = q1
            have hq := Lib.hid hq
            have hX := hX.more ((Below.refl wr.heap.size wr).alloc (Nat.le_refl _) (.cells #[i64 B.s1.fl, i64 B.s1.fh, i64 B.s1.lo, i64 B.s1.hi] 26))
            have hi := ix27_1 (i64 B.s0.fl) (i64 B.s0.fh) (i64 B.s0.lo) (i64 B.s0.hi) (i64 B.s1.fl) (i64 B.s1.fh) (i64 B.s1.lo) (i64 B.s1.hi)
            go_wp2_with (first | (go_at_call 80; refine (within_any _ _ _ _).mono ?_; rintro e w' ⟨rfl, rfl⟩) | (go_at_call 81; refine (isSpan_any _ _ _ _ _ (by omega) (by omega)).mono ?_; rintro e w' ⟨rfl, hb⟩; have hX := hX.more hb; obtain ⟨hc1, hf1⟩ := bcell hb))
            all_goals
              go_roundw
              case rel => exact ⟨2, by omega, rfl, by rw [show shK B 2 = (shK B 1 && shoreOk B.s1) from rfl, ← Bool.and_assoc, hq.out]; simp [shoreOk, *], by assumption⟩
              case measure => simp [intOf]
          · generalize h2 : (ok1 && shK B 2) = ok2
            have h2 := Lib.hid h2
            go_wp2_with fail
            go_loopw [3, 75] (fun ok i wr => ∃ k : Nat, k ≤ B.sounds.length ∧ i = .int .i64 k ∧ ok = .bool (ok2 && (B.sounds.take k).all (soundOk B.tides.length)) ∧ Box B ta tc sa sc w wr) (fun _ i _ => B.sounds.length - (intOf i).toNat)
            case atStart => exact ⟨0, by omega, rfl, by simp, hX⟩
            case round =>
              clear hX hz hc hW
              obtain ⟨k, hk, rfl, rfl, hX⟩ := hrel
              obtain ⟨hW, hz, hc⟩ := id hX
              by_cases hlt : k < B.sounds.length
              · have hn := ne_nil_of_lt hlt
                have hidx := idx28 (n := B.sounds.length) (c := sc) (k := k) wr (hS.at_ hn) hlt
                have c0 : wr.cell? ⟨sb, sq + k * 3, none⟩ = some (i64 B.sounds[k].hour) := (hW.cell (p := ⟨sb, _, none⟩) (hS.lt hn)).trans (hS.hour k hlt)
                have c1 : wr.cell? ⟨sb, sq + k * 3 + 1, none⟩ = some (i64 B.sounds[k].shore) := (hW.cell (p := ⟨sb, _, none⟩) (hS.lt hn)).trans (hS.shore k hlt)
                have c2 : wr.cell? ⟨sb, sq + k * 3 + 2, none⟩ = some (i64 B.sounds[k].deep) := (hW.cell (p := ⟨sb, _, none⟩) (hS.lt hn)).trans (hS.deep k hlt)
                have hs := Lib.hid (all_take_succ (soundOk B.tides.length) B.sounds k hlt)
                generalize hq : (ok2 && (B.sounds.take k).all (soundOk B.tides.length)) = q2
                have hq := Lib.hid hq
                have hX := hX.more ((Below.refl wr.heap.size wr).alloc (Nat.le_refl _) (.cells #[i64 B.sounds[k].hour, i64 B.sounds[k].shore, i64 B.sounds[k].deep] 70))
                go_wp2_with (first | (go_at_call 80; refine (within_any _ _ _ _).mono ?_; rintro e w' ⟨rfl, rfl⟩) | (go_at_call 76; refine (isShore_any _ _).mono ?_; rintro e w' ⟨rfl, rfl⟩) | (go_at_call 73; refine (isHour_any B ta tc sa sc _ _ hT1).mono ?_; rintro e w' ⟨rfl, hb⟩; have hX := hX.more hb; obtain ⟨hc1, hf1⟩ := bcell hb))
                all_goals
                  go_roundw
                  case rel => first | exact ⟨k + 1, by omega, by go_num, by rw [hs.out, ← Bool.and_assoc, hq.out]; simp [soundOk, *], by assumption⟩ | ((repeat apply Exists.intro); exact ⟨⟨k + 1, by omega, by go_num, by rw [hs.out, ← Bool.and_assoc, hq.out]; simp [soundOk, *], by assumption⟩, rfl⟩)
                  case measure => simp [intOf]; omega
              · have hk' : k = B.sounds.length := by omega
                subst hk'
                rw [List.take_length]
                generalize h3 : (ok2 && B.sounds.all (soundOk B.tides.length)) = ok3
                have h3 := Lib.hid h3
                have fin : Hid (checkE B = if ok3 then 0 else 20) := by
                  show _ = _
                  rw [← h3.out, ← h2.out, ← h1.out, ← hh.out]
                  simp [checkE, Book.valid, shK, Bool.and_assoc]
                cases ok3
                · go_wp2_with fail
                  go_ret
                  exact ⟨by rw [fin.out]; rfl, hW⟩
                · go_wp2_with fail
                  go_ret
                  exact ⟨by rw [fin.out]; rfl, hW⟩
end Go.Proofs.YtkbmpkdflgimmaaDoor
