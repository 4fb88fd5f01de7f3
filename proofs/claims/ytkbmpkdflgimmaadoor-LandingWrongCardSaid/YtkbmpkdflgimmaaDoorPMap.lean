/- The map from places to depths: what looking up, entering and storing do to it. -/
import Derived.Test.YtkbmpkdflgimmaaDoorBase
import Derived.Laws.StructEq
import Derived.MapKept
namespace Go.Proofs.YtkbmpkdflgimmaaDoor
open Go.RowKit

abbrev placeV (h s : Int) : Value := .agg #[i64 h, i64 s]
theorem fields107 : Tryd.prog.fieldsOf 107 = #[{ name := "hour", type := 3, offset := 0, embedded := false, tag := "", pkgPath := "prow/landing", byteOffset := 0 }, { name := "shore", type := 3, offset := 1, embedded := false, tag := "", pkgPath := "prow/landing", byteOffset := 8 }] := by kernel_rfl
theorem part3 (a b : Int) (w : World) : (part 3 #[i64 a, i64 b] 0).run Tryd.prog w = .ok (i64 a) w := by kernel_rfl
theorem part3' (a b : Int) (w : World) : (part 3 #[i64 a, i64 b] 1).run Tryd.prog w = .ok (i64 b) w := by kernel_rfl
theorem stood107 : Tryd.prog.stoodInHeld 107 = false := by kernel_rfl
theorem run_placeEqIn (n : Nat) (a b c d : Int) (w : World) : (Op.equalIn (n + 2) 107 (placeV a b) (placeV c d)).run Tryd.prog w = .ok (a == c && b == d) w := by
  have h0 := run_equalIn_struct (P := Tryd.prog) w (n + 1) 107 #[i64 a, i64 b] #[i64 c, i64 d] (by rw [fields107]; exact Tryd.underlying107) stood107
  rw [fields107] at h0
  refine h0.trans ?_
  have h1 := run_equalIn_int (P := Tryd.prog) w n 3 .i64 .i64 a c Tryd.underlying3
  have h2 := run_equalIn_int (P := Tryd.prog) w n 3 .i64 .i64 b d Tryd.underlying3
  cases e1 : (a == c) <;> cases e2 : (b == d) <;> simp [Op.eqFields, part3, part3', Sem.run_bind, h1, h2, e1, e2]
theorem run_placeEq (a b c d : Int) (w : World) : (Op.equal 107 (placeV a b) (placeV c d)).run Tryd.prog w = .ok (a == c && b == d) w :=
  run_placeEqIn 9998 a b c d w
theorem run_check107 (e : Bool) (a b : Int) (w : World) : (Instr.checkKey e 10000 107 (placeV a b)).run Tryd.prog w = .ok () w := by
  kernel_rfl

/-- The entries of a map of places: in the order in which they came. -/
structure PE where
  h : Int
  s : Int
  v : Value
def ent (p : PE) (i : Nat) : MapEntry := { key := placeV p.h p.s, val := p.v, born := i }
def ents (M : List PE) : List MapEntry := M.zipIdx.map fun x => ent x.1 x.2
/-- The first entry of a place. -/
def findP (h s : Int) : List PE → Nat → Option (Nat × Value)
  | [], _ => none
  | p :: l, i => if h == p.h && s == p.s then some (i, p.v) else findP h s l (i + 1)
theorem run_findAsking (h s : Int) (w : World) : ∀ (M : List PE) (k i : Nat), (Instr.findAsking 107 (placeV h s) ((M.zipIdx k).map fun x => ent x.1 x.2) i).run Tryd.prog w = .ok (findP h s M i) w
  | [], _, _ => by simp [Instr.findAsking, findP]
  | p :: M, k, i => by
    simp only [List.zipIdx_cons, List.map_cons, Instr.findAsking, findP, ent, Sem.run_bind, run_placeEq, Result.andThen_ok]
    cases hc : (h == p.h && s == p.s)
    · simpa [ent] using run_findAsking h s w M (k + 1) (i + 1)
    · simp
theorem run_findKey107 (h s : Int) (M : List PE) (w : World) : (Instr.findKey 107 (placeV h s) (ents M)).run Tryd.prog w = .ok (findP h s M 0) w := by
  unfold Instr.findKey
  rw [Sem.run_bind, run_underlying Tryd.underlying107 w]
  simp only [Result.andThen_ok]
  cases M with
  | nil => simp [ents, Instr.findNow, findP]
  | cons p M =>
    simp only [ents, List.zipIdx_cons, List.map_cons, Instr.findNow, ent, Instr.sameNow]
    have := run_findAsking h s w (p :: M) 0 0
    simpa [List.zipIdx_cons, ent] using this
def lookV (h s : Int) (M : List PE) : Value := ((findP h s M 0).map (·.2)).getD (.slice none 0 0)
/-- Block m is the map of these entries. -/
def MapAt (W : World) (m : Nat) (M : List PE) : Prop := W.heap[m]? = some (.map (ents M).toArray M.length)
theorem zero40 (w : World) : (zeroValue 40).run Tryd.prog w = .ok (.slice none 0 0) w := by kernel_rfl
theorem run_lookup90 {W : World} {m : Nat} {M : List PE} (hm : MapAt W m M) (h s : Int) : (Instr.lookup 90 (.map (some m)) (placeV h s) false).run Tryd.prog W = .ok (lookV h s M) W := by
  unfold Instr.lookup
  rw [Sem.run_bind, run_underlying Tryd.underlying90 W]
  simp only [Result.andThen_ok, Sem.run_bind, MapKept.run_getObj_map hm, Sem.run_pure, run_check107, run_findKey107, lookV]
  cases findP h s M 0 with
  | none => simp
  | some x => simp
/-- A slice of whole numbers, in a block below n. -/
structure IntsAt (n : Nat) (W : World) (b o : Nat) (a : Option Addr) (l : List Int) : Prop where
  len : l.length * 8 ≤ 140737488351232
  at_ : l ≠ [] → a = some ⟨b, o, none⟩
  lt : l ≠ [] → b < n
  cell : ∀ k (h : k < l.length), W.cell? ⟨b, o + k, none⟩ = some (i64 l[k])
theorem IntsAt.same {n : Nat} {w w' : World} {b o a l} (h : IntsAt n w b o a l) (hb : Same n w w') : IntsAt n w' b o a l :=
  ⟨h.len, h.at_, h.lt, fun k hk => (hb.cell (p := ⟨b, _, none⟩) (h.lt (ne_nil_of_lt hk))).trans (h.cell k hk)⟩
theorem IntsAt.up {n n' : Nat} {w : World} {b o a l} (h : IntsAt n w b o a l) (hn : n ≤ n') : IntsAt n' w b o a l :=
  ⟨h.len, h.at_, fun x => Nat.lt_of_lt_of_le (h.lt x) hn, h.cell⟩
def IntsIn (n : Nat) (W : World) (v : Value) (l : List Int) : Prop := ∃ b o a c, v = .slice a l.length c ∧ IntsAt n W b o a l
theorem IntsIn.same {n : Nat} {w w' : World} {v l} (h : IntsIn n w v l) (hb : Same n w w') : IntsIn n w' v l := by
  obtain ⟨b, o, a, c, hv, hi⟩ := h
  exact ⟨b, o, a, c, hv, hi.same hb⟩
theorem IntsIn.up {n n' : Nat} {w : World} {v l} (h : IntsIn n w v l) (hn : n ≤ n') : IntsIn n' w v l := by
  obtain ⟨b, o, a, c, hv, hi⟩ := h
  exact ⟨b, o, a, c, hv, hi.up hn⟩
/-- Block m is a map that gives D h s at each place; it and what it holds lie below n. -/
def MapIn (n : Nat) (W : World) (m : Nat) (D : Int → Int → List Int) : Prop := m < n ∧ ∃ M, MapAt W m M ∧ ∀ h s, IntsIn n W (lookV h s M) (D h s)
theorem MapIn.same {n : Nat} {w w' : World} {m D} (h : MapIn n w m D) (hb : Same n w w') : MapIn n w' m D := by
  obtain ⟨hm, M, hM, hi⟩ := h
  exact ⟨hm, M, (hb.2 m hm).trans hM, fun h s => (hi h s).same hb⟩
theorem MapIn.up {n n' : Nat} {w : World} {m D} (h : MapIn n w m D) (hn : n ≤ n') : MapIn n' w m D := by
  obtain ⟨hm, M, hM, hi⟩ := h
  exact ⟨Nat.lt_of_lt_of_le hm hn, M, hM, fun h s => (hi h s).up hn⟩
theorem MapIn.look {n : Nat} {w : World} {m D} (hm : MapIn n w m D) (h s : Int) : ∃ b o a c, (Instr.lookup 90 (.map (some m)) (placeV h s) false).run Tryd.prog w = .ok (.slice a (D h s).length c) w ∧ IntsAt n w b o a (D h s) := by
  obtain ⟨_, M, hM, hi⟩ := hm
  obtain ⟨b, o, a, c, hv, hI⟩ := hi h s
  exact ⟨b, o, a, c, by rw [run_lookup90 hM, hv], hI⟩
end Go.Proofs.YtkbmpkdflgimmaaDoor
