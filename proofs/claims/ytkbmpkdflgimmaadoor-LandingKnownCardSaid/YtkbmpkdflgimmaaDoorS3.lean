/- From, From1, PMap2, Lists, Opened, Arms, Asked, Right2, AskReg in one text. (Printed by merge.py.) -/
import Derived.Test.YtkbmpkdflgimmaaDoorS2
import Derived.Maps.AppendAt
import Derived.OwnWalk
import Derived.ChangeKeysEq
import Derived.Deep.RegionHeld3
import Derived.Test.YtkbmpkdflgimmaaDoorS1
/- The closure of opened: what the bottoms can be; definitions, and its call at the third shore. -/
namespace Go.Proofs.YtkbmpkdflgimmaaDoor
open Go.RowKit Go.Shelf

theorem run_eq99In (n : Nat) (a b c d : Int) (w : World) : (Op.equalIn (n + 2) 99 (.agg #[i64 a, i64 b]) (.agg #[i64 c, i64 d])).run Tryd.prog w = .ok (a == c && b == d) w := by
  have hi : (Tryd.prog.info? 3).map (·.size) = some 1 := by kernel_rfl
  obtain ⟨i, hi, _⟩ := Option.map_eq_some_iff.1 hi
  rw [run_equalIn_array w (n + 1) #[i64 a, i64 b] #[i64 c, i64 d] Tryd.underlying99 hi, show Tryd.prog.cellsOf 3 = 1 by kernel_rfl]
  have h1 := run_equalIn_int (P := Tryd.prog) w n 3 .i64 .i64 a c Tryd.underlying3
  have h2 := run_equalIn_int (P := Tryd.prog) w n 3 .i64 .i64 b d Tryd.underlying3
  have hr : List.range 2 = [0, 1] := rfl
  cases e1 : (a == c) <;> cases e2 : (b == d) <;> simp [Op.eqItems, hr, part3, part3', Sem.run_bind, h1, h2, e1, e2]
theorem run_eq99 (a b c d : Int) (w : World) : (Op.equal 99 (.agg #[i64 a, i64 b]) (.agg #[i64 c, i64 d])).run Tryd.prog w = .ok (a == c && b == d) w := run_eq99In 9998 a b c d w

/-- Whether each hour has a height, with some bottoms. -/
def canB (B : Book) (D : Int → Int → List Int) (f0 f1 : Int) : Bool := (List.range B.tides.length).all fun h => match B.tides[h]? with
  | some t => !(hList t D h f0 f1).isEmpty
  | none => true
def extC (B : Book) (D : Int → Int → List Int) (f0 f1 : Int) : List (Int × Int) := if canB B D f0 f1 then [(f0, f1)] else []
def flatC (l : List (Int × Int)) : List Value := l.flatMap fun f => [i64 f.1, i64 f.2]
theorem flatC_append (l k : List (Int × Int)) : flatC (l ++ k) = flatC l ++ flatC k := by simp [flatC]
/-- Block m is a map that gives D h s at each place; it and what it holds lie below n, and off block bb. -/
def MapFix (bb n : Nat) (W : World) (m : Nat) (D : Int → Int → List Int) : Prop := (m < n ∧ m ≠ bb) ∧ ∃ M, MapAt W m M ∧ ∀ h s, ∃ b o a c, lookV h s M = .slice a (D h s).length c ∧ IntsAt n W b o a (D h s) ∧ (D h s ≠ [] → b ≠ bb)
theorem MapFix.mapIn {bb n : Nat} {W : World} {m : Nat} {D : Int → Int → List Int} (h : MapFix bb n W m D) : MapIn n W m D := by
  obtain ⟨⟨h1, _⟩, M, h2, h3⟩ := h
  refine ⟨h1, M, h2, fun h s => ?_⟩
  obtain ⟨b, o, a, c, e, hi, _⟩ := h3 h s
  exact ⟨b, o, a, c, e, hi⟩
/-- Below n, all but block bb is as it was. -/
def SameBut (bb n : Nat) (W W' : World) : Prop := W.heap.size ≤ W'.heap.size ∧ ∀ k, k < n → k ≠ bb → W'.heap[k]? = W.heap[k]?
theorem SameBut.cell {bb n : Nat} {W W' : World} (h : SameBut bb n W W') {p : Addr} (hp : p.block < n) (hb : p.block ≠ bb) : W'.cell? p = W.cell? p := World.cell?_of_block (w := W) (h.2 p.block hp hb)
theorem MapFix.same {bb n : Nat} {W W' : World} {m : Nat} {D : Int → Int → List Int} (h : MapFix bb n W m D) (hs : SameBut bb n W W') : MapFix bb n W' m D := by
  obtain ⟨⟨h1, h1'⟩, M, h2, h3⟩ := h
  refine ⟨⟨h1, h1'⟩, M, (hs.2 m h1 h1').trans h2, fun h s => ?_⟩
  obtain ⟨b, o, a, c, e, hi, hb⟩ := h3 h s
  exact ⟨b, o, a, c, e, ⟨hi.len, hi.at_, hi.lt, fun k hk => (hs.cell (p := ⟨b, _, none⟩) (hi.lt (ne_nil_of_lt hk)) (hb (ne_nil_of_lt hk))).trans (hi.cell k hk)⟩, hb⟩

/-- What opened's closure reads: the book's box x, its own box, the map, all below nM; the book's lists and the package's variables, below nA. -/
structure Op0 (nA nM xb fb bb : Nat) (B : Book) (tb tq : Nat) (ta : Option Addr) (tc : Nat) (sa : Option Addr) (sc m : Nat) (D : Int → Int → List Int) (W : World) : Prop where
  a2 : 2 < nA
  ab : nA ≤ bb
  bm : bb < nM
  xm : xb < nM ∧ xb ≠ bb
  fm : fb < nM ∧ fb ≠ bb
  sz : nM ≤ W.heap.size
  unk0 : W.cell? ⟨2, 0, none⟩ = some (i64 (-41))
  unk1 : W.cell? ⟨2, 1, none⟩ = some (i64 (-41))
  x : W.heap[xb]? = some (.cells (bookCells B ta tc sa sc) 30 (0, 0))
  f : W.heap[fb]? = some (.cells #[.func (.func 95) #[] #[.pointer (some ⟨xb, 0, none⟩), .pointer (some ⟨fb, 0, none⟩), .pointer (some ⟨bb, 0, none⟩)]] 120 (0, 0))
  tides : SpansAt nA W tb tq ta B.tides
  map : MapFix bb nM W m D
theorem Op0.same {nA nM xb fb bb : Nat} {B : Book} {tb tq : Nat} {ta : Option Addr} {tc : Nat} {sa : Option Addr} {sc m : Nat} {D : Int → Int → List Int} {W W' : World}
    (h : Op0 nA nM xb fb bb B tb tq ta tc sa sc m D W) (hs : SameBut bb nM W W') : Op0 nA nM xb fb bb B tb tq ta tc sa sc m D W' := by
  have h1 := h.a2
  have h2 := h.ab
  have h3 := h.bm
  refine ⟨h1, h2, h3, h.xm, h.fm, Nat.le_trans h.sz hs.1, (hs.cell (p := ⟨2, 0, none⟩) (by show 2 < nM; omega) (by show 2 ≠ bb; omega)).trans h.unk0, (hs.cell (p := ⟨2, 1, none⟩) (by show 2 < nM; omega) (by show 2 ≠ bb; omega)).trans h.unk1,
    (hs.2 _ h.xm.1 h.xm.2).trans h.x, (hs.2 _ h.fm.1 h.fm.2).trans h.f, h.tides.same ⟨hs.1, fun k hk => hs.2 k (by omega) (by omega)⟩, h.map.same hs⟩

/-- What a call of the closure does to the world: cv was the list so far, cv' is it now. -/
structure Step (bb : Nat) (cv cv' : Value) (W W' : World) : Prop where
  os : W'.os = W.os
  tape : W'.tape = W.tape
  output : W'.output = W.output
  size : W.heap.size ≤ W'.heap.size
  keep : ∀ k, k < W.heap.size → k ≠ bb → cv.ownBlock ≠ some k → W'.heap[k]? = W.heap[k]?
  row : ∀ g, cv'.ownBlock = some g → cv.ownBlock = some g ∨ W.heap.size ≤ g
theorem Step.of_below {bb : Nat} {cv : Value} {W W' : World} (h : Below W.heap.size W W') : Step bb cv cv W W' := ⟨h.os, h.tape, h.output, h.size, fun k hk _ _ => h.block k hk, fun _ h => .inl h⟩
theorem Step.trans {bb : Nat} {a b c : Value} {A B' C : World} (h : Step bb a b A B') (k : Step bb b c B' C) : Step bb a c A C := by
  refine ⟨k.os.trans h.os, k.tape.trans h.tape, k.output.trans h.output, Nat.le_trans h.size k.size, fun i hi hb hr => (k.keep i (Nat.lt_of_lt_of_le hi h.size) hb (fun e => ?_)).trans (h.keep i hi hb hr), fun g hg => ?_⟩
  · rcases h.row i e with h1 | h1
    · exact hr h1
    · omega
  · rcases k.row g hg with h1 | h1
    · exact h.row g h1
    · exact .inr (Nat.le_trans h.size h1)
theorem Step.sameBut {bb nM : Nat} {cv cv' : Value} {W W' : World} (h : Step bb cv cv' W W') (hn : nM ≤ W.heap.size) (hr : ∀ g, cv.ownBlock = some g → nM ≤ g) : SameBut bb nM W W' :=
  ⟨h.size, fun k hk hb => h.keep k (by omega) hb (fun e => by have := hr k e; omega)⟩
/-- The box of b, and its list, which holds l. -/
structure BB (nM bb : Nat) (B : Book) (ta : Option Addr) (tc : Nat) (sa : Option Addr) (sc m : Nat) (l : List (Int × Int)) (cv : Value) (W : World) : Prop where
  box : W.heap[bb]? = some (.cells (calcCells B ta tc sa sc m cv) 93 (0, 0))
  own : W.ownsRow nM 99 2 cv l.length (flatC l)
theorem BB.row {nM bb B ta tc sa sc m l cv W} (h : BB nM bb B ta tc sa sc m l cv W) : ∀ g, cv.ownBlock = some g → nM ≤ g := fun g hg => (h.own.lt g hg).1
theorem BB.is_slice {nM bb B ta tc sa sc m l cv W} (h : BB nM bb B ta tc sa sc m l cv W) : ∃ a n c, cv = .slice a n c := by
  rcases h.own.2 with ⟨h, _⟩ | ⟨g, cap, cur, h, _⟩
  · exact ⟨_, _, _, h⟩
  · exact ⟨_, _, _, h⟩
theorem BB.below {nM bb B ta tc sa sc m l cv W W'} (h : BB nM bb B ta tc sa sc m l cv W) (hb : Below W.heap.size W W') : BB nM bb B ta tc sa sc m l cv W' :=
  ⟨(hb.block _ (Array.getElem?_eq_some_iff.1 h.box).1).trans h.box, h.own.kept (row := none) ⟨hb.os, hb.tape, hb.output, hb.size, fun i hi _ => hb.block i hi⟩ (by cases hv : cv.ownBlock <;> simp)⟩
/-- Storing into field can of b's box. -/
theorem set_can {W : World} {bb : Nat} {B : Book} {ta : Option Addr} {tc : Nat} {sa : Option Addr} {sc m : Nat} {cv : Value} (h : W.heap[bb]? = some (.cells (calcCells B ta tc sa sc m cv) 93 (0, 0))) (v : Value) :
    (W.setCell ⟨bb, 15, none⟩ v).heap[bb]? = some (.cells (calcCells B ta tc sa sc m v) 93 (0, 0)) := by
  simp [World.setCell, Array.getElem?_modify, h]
theorem frozen_of {W : World} {b : Nat} {c : Array Value} {t : TypeId} (h : W.heap[b]? = some (.cells c t (0, 0))) (j : Nat) : W.frozen? ⟨b, j, none⟩ = false := by simp [World.frozen?, h]
theorem info99 : (Tryd.prog.info? 99).map (fun i => (i.zero, i.size, i.bytes)) = some (some (.agg #[i64 0, i64 0]), 2, 16) := by kernel_rfl
def FromPost (nM bb : Nat) (B : Book) (ta : Option Addr) (tc : Nat) (sa : Option Addr) (sc m : Nat) (l : List (Int × Int)) (cv : Value) (W : World) (e : Ending) (W' : World) : Prop :=
  e = .returned (.tuple #[]) ∧ ∃ cv', BB nM bb B ta tc sa sc m l cv' W' ∧ Step bb cv cv' W W'
theorem canB_take (B : Book) (D : Int → Int → List Int) (f0 f1 : Int) (k : Nat) (h : k < B.tides.length) :
    ((List.range (k + 1)).all fun h => match B.tides[h]? with | some t => !(hList t D h f0 f1).isEmpty | none => true) =
    (((List.range k).all fun h => match B.tides[h]? with | some t => !(hList t D h f0 f1).isEmpty | none => true) && !(hList B.tides[k] D k f0 f1).isEmpty) := by
  rw [List.range_succ, List.all_append]; simp [h]
set_option maxRecDepth 100000 in
set_option maxHeartbeats 2000000 in
theorem from2 (nA nM xb fb bb : Nat) (B : Book) (tb tq : Nat) (ta : Option Addr) (tc : Nat) (sa : Option Addr) (sc m : Nat) (D : Int → Int → List Int) (f0 f1 : Int) (l : List (Int × Int)) (cv : Value) (W : World)
    (h0 : Op0 nA nM xb fb bb B tb tq ta tc sa sc m D W) (hb : BB nM bb B ta tc sa sc m l cv W) (hh : ∀ k, k < B.tides.length → HourOk B k) (hl : l.length ≤ 1000)
    (h3 : -40 ≤ f0) (h4 : f0 ≤ 100) (h5 : -100 ≤ f1) (h6 : f1 ≤ 100) :
    Calls Tryd.prog 95 #[.agg #[i64 f0, i64 f1], i64 2, .pointer (some ⟨xb, 0, none⟩), .pointer (some ⟨fb, 0, none⟩), .pointer (some ⟨bb, 0, none⟩)] W
      (FromPost nM bb B ta tc sa sc m (l ++ extC B D f0 f1) cv W) := by
  obtain ⟨ca, cn, cc, rfl⟩ := hb.is_slice
  have hx := cells_of h0.x
  have hxl : xb < W.heap.size := Nat.lt_of_lt_of_le h0.xm.1 h0.sz
  have ht1 := h0.tides.len
  have hW1 : Below W.heap.size W (W.alloc (.cells #[i64 f0, i64 f1] 99)) := (Below.refl _ W).alloc (Nat.le_refl _) _
  have hB0 := hb.below hW1
  have hO0 := h0.same (Step.sameBut (Step.of_below (bb := bb) (cv := .slice ca cn cc) hW1) h0.sz hb.row)
  have hf0 : (W.alloc (.cells #[i64 f0, i64 f1] 99)).heap[W.heap.size]? = some (.cells #[i64 f0, i64 f1] 99 (0, 0)) := heap_alloc_new W _
  go_enter Tryd.func95, Tryd.ntmps95
  go_wp2_with fail
  go_loopw [41] (fun i wr => ∃ k : Nat, k ≤ B.tides.length ∧ i = .int .i64 k ∧ Below (W.heap.size + 1) (W.alloc (.cells #[i64 f0, i64 f1] 99)) wr ∧
      Hid (((List.range k).all fun h => match B.tides[h]? with | some t => !(hList t D h f0 f1).isEmpty | none => true) = true)) (fun i _ => B.tides.length - (intOf i).toNat)
  case atStart => exact ⟨0, Nat.zero_le _, rfl, Below.refl _ _, by simp [Hid]⟩
  case round =>
    obtain ⟨k, hk, rfl, hbw, hall⟩ := hrel
    have hbw' : Below (W.alloc (.cells #[i64 f0, i64 f1] 99)).heap.size (W.alloc (.cells #[i64 f0, i64 f1] 99)) wr := by simpa using hbw
    have hB1 := hB0.below hbw'
    have hO1 := hO0.same (Step.sameBut (Step.of_below (bb := bb) (cv := .slice ca cn cc) hbw') hO0.sz hB0.row)
    have hff := (hbw.block _ (Nat.lt_succ_self _)).trans hf0
    clear hx
    have hxc := cells_of hO1.x
    have hbc := cells_of hB1.box
    have hfc := cells_of hff
    have hfl : W.heap.size < wr.heap.size := (Array.getElem?_eq_some_iff.1 hff).1
    have hbl : bb < wr.heap.size := (Array.getElem?_eq_some_iff.1 hB1.box).1
    have hu0 := hO1.unk0
    have hu1 := hO1.unk1
    have hul : 2 < wr.heap.size := by have := hO1.a2; have := hO1.ab; omega
    have heq : (Op.equalIn 10000 99 (.agg #[i64 f0, i64 f1]) (.agg #[i64 (-41), i64 (-41)])).run Tryd.prog wr = .ok false wr := by
      have h := run_eq99In 9998 f0 f1 (-41) (-41) wr
      rwa [show (f0 == -41 && f1 == -41) = false by simp; omega] at h
    clear hB0 hO0 hf0 h0 hb
    by_cases hlt : k < B.tides.length
    · have hs := Lib.hid (canB_take B D f0 f1 k hlt)
      cases he : (hList B.tides[k] D k f0 f1).isEmpty
      · have he := Lib.hid he
        go_wp2_with (go_at_call 96; refine (callsIn_wide.1 (some_in 3 (by omega) nM B tb tq ta tc sa sc m ca cn cc D k (hh k hlt) f0 f1 (by omega) (by omega) (by omega) (by omega) _ hO1.sz (hO1.tides.up (by have := hO1.ab; have := hO1.bm; omega)) hO1.map.mapIn)).mono ?_; rintro e w' ⟨rfl, hb2⟩; rw [he.out])
        go_roundw
        case rel => exact ⟨k + 1, by omega, by go_num, hbw.trans (hb2.mono (by omega)), by show _ = _; rw [hs.out, hall.out, he.out]; rfl⟩
        case measure => simp [intOf]; omega
      · have he := Lib.hid he
        have hfin : Hid (extC B D f0 f1 = []) := by
          show _ = _
          have : canB B D f0 f1 = false := by
            rw [canB, List.all_eq_false]
            exact ⟨k, List.mem_range.2 hlt, by simp [hlt, he.out]⟩
          simp [extC, this]
        go_wp2_with (go_at_call 96; refine (callsIn_wide.1 (some_in 3 (by omega) nM B tb tq ta tc sa sc m ca cn cc D k (hh k hlt) f0 f1 (by omega) (by omega) (by omega) (by omega) _ hO1.sz (hO1.tides.up (by have := hO1.ab; have := hO1.bm; omega)) hO1.map.mapIn)).mono ?_; rintro e w' ⟨rfl, hb2⟩; rw [he.out])
        refine bodyPost_ret (results_none rfl _ _ _) rfl ⟨rfl, _, ?_, Step.of_below (hW1.trans ((hbw.mono (by omega)).trans (hb2.mono (by omega))))⟩
        rw [hfin.out, List.append_nil]
        exact hB1.below hb2
    · have hke : k = B.tides.length := by omega
      have hfin : Hid (extC B D f0 f1 = [(f0, f1)]) := by
        show _ = _
        have h := hall.out
        rw [hke] at h
        have : canB B D f0 f1 = true := h
        simp [extC, this]
      have hk' : ¬ (k : Int) < (B.tides.length : Int) := by omega
      clear hke
      obtain ⟨i0, hi, hz0, hz1, hz2⟩ := info_parts info99
      have hbb := hO1.bm
      have hsz1 := hO1.sz
      have hab := hO1.ab
      have hrw := hB1.row
      have hwr : W.heap.size ≤ wr.heap.size := by omega
      go_wp2_with (at_builtin; refine wpList_append_own_at _ rfl _ _ 91 rfl nM 99 i0 (.agg #[i64 0, i64 0]) 2 16 Tryd.underlying91 hi hz0 hz1 hz2 rfl (by decide) _ _ _ rfl (hB1.own.alloc _) ⟨wr.heap.size, 0, none⟩ 1 1 [i64 f0, i64 f1] rfl rfl (cell_two_new _ _ _ _) (by simp [Value.oneCell']) (by unfold maxLen; omega) (by omega) (by simp; omega) ?_; intro v' w1 hown' hgrow hnil hloc; obtain ⟨g', cap', rfl⟩ := ownsRow_succ hown'; have hbx1 := (hgrow.block bb (by simp; omega) (fun e => by have := hrw bb e.symm; omega)).trans ((Below.heap_alloc wr _ bb hbl).trans hB1.box); have hbc1 := cells_of hbx1; have hbf1 := frozen_of hbx1; have hbl1 := (Array.getElem?_eq_some_iff.1 hbx1).1)
      go_end0
      have hloc' : ∀ g, some g' = some g → (Value.slice ca cn cc).ownBlock = some g ∨ W.heap.size ≤ g := by
        intro g hg
        rcases hloc with h | h
        · exact .inl (h.symm.trans hg)
        · refine .inr ?_
          rw [show (Value.slice (some ⟨g', 0, none⟩) (l.length + 1) cap').ownBlock = some g' from rfl, hg] at h
          simp at h
          omega
      refine ⟨rfl, .slice (some ⟨g', 0, none⟩) (l.length + 1) cap', ⟨set_can hbx1 _, ?_⟩, ⟨hgrow.os.trans hbw.os, hgrow.tape.trans hbw.tape, hgrow.output.trans hbw.output, ?_, ?_, hloc'⟩⟩
      · rw [hfin.out, flatC_append, List.length_append]
        refine World.ownsRow.kept (row := some bb) hown' ⟨rfl, rfl, rfl, by simp [World.setCell], fun k _ hk => Below.heap_setCell _ _ _ k (fun e => hk (by rw [e]))⟩ (.inr (fun e => ?_))
        have := (hown'.lt g' rfl).1
        have e' : g' = bb := by simpa [Value.ownBlock] using e
        omega
      · have := hgrow.size
        simp [World.setCell] at this ⊢
        omega
      · intro k hk hkb hkr
        rw [Below.heap_setCell _ _ _ k hkb, hgrow.block k (by simp; omega) (fun e => hkr e.symm), Below.heap_alloc wr _ k (by omega)]
        exact (hbw.block k (by omega)).trans (hW1.block k hk)
end Go.Proofs.YtkbmpkdflgimmaaDoor
/- The closure of opened: its calls at the second shore and at the first. -/
namespace Go.Proofs.YtkbmpkdflgimmaaDoor
open Go.RowKit Go.Shelf

/-- The heights of a bottom. -/
structure ShOk (x : Shore) : Prop where
  lo : -40 ≤ x.fl
  le : x.fl ≤ x.fh
  hi : x.fh ≤ 80
  near : x.fh - x.fl ≤ 4
def preC1 (B : Book) (D : Int → Int → List Int) (f0 : Int) (k : Nat) : List (Int × Int) := (List.range k).flatMap fun (n : Nat) => extC B D f0 (B.s1.fl + (n : Int))
def ext1 (B : Book) (D : Int → Int → List Int) (f0 : Int) : List (Int × Int) := preC1 B D f0 (B.s1.fh - B.s1.fl + 1).toNat
def preC0 (B : Book) (D : Int → Int → List Int) (k : Nat) : List (Int × Int) := (List.range k).flatMap fun (n : Nat) => ext1 B D (B.s0.fl + (n : Int))
def ext0 (B : Book) (D : Int → Int → List Int) : List (Int × Int) := preC0 B D (B.s0.fh - B.s0.fl + 1).toNat
theorem preC1_succ (B : Book) (D f0) (k : Nat) : preC1 B D f0 (k + 1) = preC1 B D f0 k ++ extC B D f0 (B.s1.fl + (k : Int)) := by simp [preC1, List.range_succ]
theorem preC0_succ (B : Book) (D) (k : Nat) : preC0 B D (k + 1) = preC0 B D k ++ ext1 B D (B.s0.fl + (k : Int)) := by simp [preC0, List.range_succ]
theorem extC_len (B : Book) (D f0 f1) : (extC B D f0 f1).length ≤ 1 := by unfold extC; split <;> simp
theorem preC1_len (B : Book) (D f0) (k : Nat) : (preC1 B D f0 k).length ≤ 1 * k := by
  induction k with
  | zero => simp [preC1]
  | succ k ih => rw [preC1_succ, List.length_append]; have := extC_len B D f0 (B.s1.fl + (k : Int)); omega
theorem preC0_len (B : Book) (D) (k : Nat) (h : ShOk B.s1) : (preC0 B D k).length ≤ 5 * k := by
  induction k with
  | zero => simp [preC0]
  | succ k ih =>
    rw [preC0_succ, List.length_append]
    have := preC1_len B D (B.s0.fl + (k : Int)) (B.s1.fh - B.s1.fl + 1).toNat
    have := h.near
    unfold ext1
    omega
theorem set_two0 {W : World} {z : Nat} {a b : Value} {t : TypeId} (h : W.heap[z]? = some (.cells #[a, b] t (0, 0))) (v : Value) : (W.setCell ⟨z, 0, none⟩ v).heap[z]? = some (.cells #[v, b] t (0, 0)) := by simp [World.setCell, Array.getElem?_modify, h]
theorem set_two1 {W : World} {z : Nat} {a b : Value} {t : TypeId} (h : W.heap[z]? = some (.cells #[a, b] t (0, 0))) (v : Value) : (W.setCell ⟨z, 1, none⟩ v).heap[z]? = some (.cells #[a, v] t (0, 0)) := by simp [World.setCell, Array.getElem?_modify, h]
theorem Op0.set {nA nM xb fb bb : Nat} {B : Book} {tb tq : Nat} {ta : Option Addr} {tc : Nat} {sa : Option Addr} {sc m : Nat} {D : Int → Int → List Int} {W : World} {z : Nat}
    (h : Op0 nA nM xb fb bb B tb tq ta tc sa sc m D W) (hz : nM ≤ z) (j : Nat) (v : Value) : Op0 nA nM xb fb bb B tb tq ta tc sa sc m D (W.setCell ⟨z, j, none⟩ v) :=
  h.same ⟨by simp [World.setCell], fun k hk _ => Below.heap_setCell _ _ _ k (by show k ≠ z; omega)⟩
theorem BB.set {nM bb B ta tc sa sc m l cv W} {z : Nat} (h : BB nM bb B ta tc sa sc m l cv W) (hr : cv.ownBlock ≠ some z) (hb : z ≠ bb) (j : Nat) (v : Value) : BB nM bb B ta tc sa sc m l cv (W.setCell ⟨z, j, none⟩ v) :=
  ⟨(Below.heap_setCell _ _ _ bb (fun e => hb e.symm)).trans h.box, h.own.kept (row := some z) ⟨rfl, rfl, rfl, by simp [World.setCell], fun k _ hk => Below.heap_setCell _ _ _ k (fun e => hk (by rw [e]))⟩ (.inr hr)⟩
theorem Step.set {bb : Nat} {cv cv' : Value} {W W' : World} {z : Nat} (h : Step bb cv cv' W W') (hz : W.heap.size ≤ z) (j : Nat) (v : Value) : Step bb cv cv' W (W'.setCell ⟨z, j, none⟩ v) :=
  ⟨h.os, h.tape, h.output, by simpa [World.setCell] using h.size, fun k hk hb hr => (Below.heap_setCell _ _ _ k (by show k ≠ z; omega)).trans (h.keep k hk hb hr), h.row⟩
set_option maxRecDepth 100000 in
set_option maxHeartbeats 2000000 in
theorem from1 (nA nM xb fb bb : Nat) (B : Book) (tb tq : Nat) (ta : Option Addr) (tc : Nat) (sa : Option Addr) (sc m : Nat) (D : Int → Int → List Int) (f0 g1 : Int) (l : List (Int × Int)) (cv : Value) (W : World)
    (h0 : Op0 nA nM xb fb bb B tb tq ta tc sa sc m D W) (hb : BB nM bb B ta tc sa sc m l cv W) (hh : ∀ k, k < B.tides.length → HourOk B k) (hl : l.length ≤ 900) (hs1 : ShOk B.s1)
    (h3 : -40 ≤ f0) (h4 : f0 ≤ 100) : Calls Tryd.prog 95 #[.agg #[i64 f0, i64 g1], i64 1, .pointer (some ⟨xb, 0, none⟩), .pointer (some ⟨fb, 0, none⟩), .pointer (some ⟨bb, 0, none⟩)] W
      (FromPost nM bb B ta tc sa sc m (l ++ ext1 B D f0) cv W) := by
  obtain ⟨s1, s2, s3, s4⟩ := hs1
  have hx := cells_of h0.x
  have hxl : xb < W.heap.size := Nat.lt_of_lt_of_le h0.xm.1 h0.sz
  have hzM : nM ≤ W.heap.size := h0.sz
  have hzb : W.heap.size ≠ bb := by have := h0.bm; omega
  have hrow0 : ∀ g, cv.ownBlock = some g → g < W.heap.size := fun g hg => (hb.own.lt g hg).2
  have hW1 : Below W.heap.size W ((W.alloc (.cells #[i64 f0, i64 g1] 99)).alloc (.cells #[i64 B.s1.fl, i64 B.s1.fh] 24)) := ((Below.refl _ W).alloc (Nat.le_refl _) _).alloc (by simp) _
  have hB0 := hb.below hW1
  have hO0 := h0.same (Step.sameBut (Step.of_below (bb := bb) (cv := cv) hW1) h0.sz hb.row)
  have hf0 : ((W.alloc (.cells #[i64 f0, i64 g1] 99)).alloc (.cells #[i64 B.s1.fl, i64 B.s1.fh] 24)).heap[W.heap.size]? = some (.cells #[i64 f0, i64 g1] 99 (0, 0)) := (Below.heap_alloc _ _ _ (by simp)).trans (heap_alloc_new W _)
  have hg0 : ((W.alloc (.cells #[i64 f0, i64 g1] 99)).alloc (.cells #[i64 B.s1.fl, i64 B.s1.fh] 24)).heap[W.heap.size + 1]? = some (.cells #[i64 B.s1.fl, i64 B.s1.fh] 24 (0, 0)) := heap_alloc2_new W _ _
  have hS0 : Step bb cv cv W ((W.alloc (.cells #[i64 f0, i64 g1] 99)).alloc (.cells #[i64 B.s1.fl, i64 B.s1.fh] 24)) := Step.of_below hW1
  go_enter Tryd.func95, Tryd.ntmps95
  go_wp2_with fail
  go_loopw [23] (fun i wr => ∃ k : Nat, k ≤ (B.s1.fh - B.s1.fl + 1).toNat ∧ i = .int .i64 k ∧ ∃ cv1 gk, BB nM bb B ta tc sa sc m (l ++ preC1 B D f0 k) cv1 wr ∧ Op0 nA nM xb fb bb B tb tq ta tc sa sc m D wr ∧
      wr.heap[W.heap.size]? = some (.cells #[i64 f0, i64 gk] 99 (0, 0)) ∧ wr.heap[W.heap.size + 1]? = some (.cells #[i64 B.s1.fl, i64 B.s1.fh] 24 (0, 0)) ∧ Step bb cv cv1 W wr ∧ (∀ g, cv1.ownBlock = some g → g < W.heap.size ∨ W.heap.size + 2 ≤ g))
      (fun i _ => (B.s1.fh - B.s1.fl + 1).toNat - (intOf i).toNat)
  case atStart => exact ⟨0, Nat.zero_le _, rfl, cv, g1, by simpa [preC1] using hB0, hO0, hf0, hg0, hS0, fun g hg => .inl (hrow0 g hg)⟩
  case round =>
    clear hx hB0 hO0 hf0 hg0 hS0 hW1
    obtain ⟨k, hk, rfl, cv1, gk, hB1, hO1, hf1, hg1, hS1, hr1⟩ := hrel
    have hfc := cells_of hf1
    have hff := frozen_of hf1
    have hgc := cells_of hg1
    have hzl := (Array.getElem?_eq_some_iff.1 hf1).1
    have hzl1 := (Array.getElem?_eq_some_iff.1 hg1).1
    have hfnl : fb < wr.heap.size := Nat.lt_of_lt_of_le hO1.fm.1 hO1.sz
    have hfnc := cells_of hO1.f
    have hfz : fb ≠ W.heap.size := by have := hO1.fm.1; omega
    have hzr : cv1.ownBlock ≠ some W.heap.size := fun e => by rcases hr1 _ e with h | h <;> omega
    have hzr1 : cv1.ownBlock ≠ some (W.heap.size + 1) := fun e => by rcases hr1 _ e with h | h <;> omega
    have hzb1 : W.heap.size + 1 ≠ bb := by have := hO1.bm; omega
    have hz01 : W.heap.size ≠ W.heap.size + 1 := by omega
    by_cases hlt : k < (B.s1.fh - B.s1.fl + 1).toNat
    · have hlt' : (k : Int) < B.s1.fh - B.s1.fl + 1 := by omega
      have hlen : (l ++ preC1 B D f0 k).length ≤ l.length + 1 * k := by
        have := preC1_len B D f0 k
        simp; omega
      have hk4 : k ≤ 4 := by omega
      have heq := Lib.hid (preC1_succ B D f0 k)
      have hq0 := set_two1 hf1 (i64 (B.s1.fl + (k : Int)))
      have hqc := cells_of hq0
      have hqn := cells_of ((Below.heap_setCell wr ⟨W.heap.size, 1, none⟩ (i64 (B.s1.fl + (k : Int))) fb hfz).trans hO1.f)
      have hq1 := (Below.heap_setCell wr ⟨W.heap.size, 1, none⟩ (i64 (B.s1.fl + (k : Int))) (W.heap.size + 1) (Ne.symm hz01)).trans hg1
      have hSq := hS1.set (Nat.le_refl _) 1 (i64 (B.s1.fl + (k : Int)))
      go_wp2_with (go_at_call 95; refine (from2 nA nM xb fb bb B tb tq ta tc sa sc m D f0 (B.s1.fl + (k : Int)) (l ++ preC1 B D f0 k) cv1 _ (hO1.set hzM _ _) (hB1.set hzr hzb _ _) hh (by omega) (by omega) (by omega) (by omega) (by omega)).mono ?_; rintro e w' ⟨rfl, cv2, hB2, hS2⟩; have hf2 := (hS2.keep _ (by simpa [World.setCell] using hzl) hzb hzr).trans hq0; have hg2 := (hS2.keep _ (by simpa [World.setCell] using hzl1) hzb1 hzr1).trans hq1; have hO2 := (hO1.set hzM 1 (i64 (B.s1.fl + (k : Int)))).same (hS2.sameBut (by simp [World.setCell]; have := hO1.sz; omega) hB1.row); have hS3 := hSq.trans hS2; have hsz2 := hS2.size)
      go_roundw
      case rel =>
        refine ⟨k + 1, by omega, by go_num, cv2, _, ?_, by assumption, by assumption, by assumption, by assumption, ?_⟩
        · rw [heq.out, ← List.append_assoc]; assumption
        · intro g hg
          rcases hS2.row g hg with h | h
          · exact hr1 g h
          · refine .inr ?_
            simp [World.setCell] at h
            omega
      case measure => simp [intOf]; omega
    · have hke : k = (B.s1.fh - B.s1.fl + 1).toNat := by omega
      have hfin : Hid (l ++ ext1 B D f0 = l ++ preC1 B D f0 k) := by
        show _ = _
        rw [hke]; rfl
      have hlt' : ¬ (k : Int) < B.s1.fh - B.s1.fl + 1 := by omega
      clear hke
      go_wp2_with fail
      refine bodyPost_ret (results_none rfl _ _ _) rfl ⟨rfl, cv1, ?_, hS1⟩
      rw [hfin.out]
      exact hB1
set_option maxRecDepth 100000 in
set_option maxHeartbeats 2000000 in
theorem from0 (nA nM xb fb bb : Nat) (B : Book) (tb tq : Nat) (ta : Option Addr) (tc : Nat) (sa : Option Addr) (sc m : Nat) (D : Int → Int → List Int) (g0 g1 : Int) (l : List (Int × Int)) (cv : Value) (W : World)
    (h0 : Op0 nA nM xb fb bb B tb tq ta tc sa sc m D W) (hb : BB nM bb B ta tc sa sc m l cv W) (hh : ∀ k, k < B.tides.length → HourOk B k) (hl : l.length ≤ 100) (hs1 : ShOk B.s1) (hs0 : ShOk B.s0)
    : Calls Tryd.prog 95 #[.agg #[i64 g0, i64 g1], i64 0, .pointer (some ⟨xb, 0, none⟩), .pointer (some ⟨fb, 0, none⟩), .pointer (some ⟨bb, 0, none⟩)] W
      (FromPost nM bb B ta tc sa sc m (l ++ ext0 B D) cv W) := by
  obtain ⟨s1, s2, s3, s4⟩ := hs0
  have hx := cells_of h0.x
  have hxl : xb < W.heap.size := Nat.lt_of_lt_of_le h0.xm.1 h0.sz
  have hzM : nM ≤ W.heap.size := h0.sz
  have hzb : W.heap.size ≠ bb := by have := h0.bm; omega
  have hrow0 : ∀ g, cv.ownBlock = some g → g < W.heap.size := fun g hg => (hb.own.lt g hg).2
  have hW1 : Below W.heap.size W ((W.alloc (.cells #[i64 g0, i64 g1] 99)).alloc (.cells #[i64 B.s0.fl, i64 B.s0.fh] 24)) := ((Below.refl _ W).alloc (Nat.le_refl _) _).alloc (by simp) _
  have hB0 := hb.below hW1
  have hO0 := h0.same (Step.sameBut (Step.of_below (bb := bb) (cv := cv) hW1) h0.sz hb.row)
  have hf0 : ((W.alloc (.cells #[i64 g0, i64 g1] 99)).alloc (.cells #[i64 B.s0.fl, i64 B.s0.fh] 24)).heap[W.heap.size]? = some (.cells #[i64 g0, i64 g1] 99 (0, 0)) := (Below.heap_alloc _ _ _ (by simp)).trans (heap_alloc_new W _)
  have hg0 : ((W.alloc (.cells #[i64 g0, i64 g1] 99)).alloc (.cells #[i64 B.s0.fl, i64 B.s0.fh] 24)).heap[W.heap.size + 1]? = some (.cells #[i64 B.s0.fl, i64 B.s0.fh] 24 (0, 0)) := heap_alloc2_new W _ _
  have hS0 : Step bb cv cv W ((W.alloc (.cells #[i64 g0, i64 g1] 99)).alloc (.cells #[i64 B.s0.fl, i64 B.s0.fh] 24)) := Step.of_below hW1
  go_enter Tryd.func95, Tryd.ntmps95
  go_wp2_with fail
  go_loopw [23] (fun i wr => ∃ k : Nat, k ≤ (B.s0.fh - B.s0.fl + 1).toNat ∧ i = .int .i64 k ∧ ∃ cv1 gk, BB nM bb B ta tc sa sc m (l ++ preC0 B D k) cv1 wr ∧ Op0 nA nM xb fb bb B tb tq ta tc sa sc m D wr ∧
      wr.heap[W.heap.size]? = some (.cells #[i64 gk, i64 g1] 99 (0, 0)) ∧ wr.heap[W.heap.size + 1]? = some (.cells #[i64 B.s0.fl, i64 B.s0.fh] 24 (0, 0)) ∧ Step bb cv cv1 W wr ∧ (∀ g, cv1.ownBlock = some g → g < W.heap.size ∨ W.heap.size + 2 ≤ g))
      (fun i _ => (B.s0.fh - B.s0.fl + 1).toNat - (intOf i).toNat)
  case atStart => exact ⟨0, Nat.zero_le _, rfl, cv, g0, by simpa [preC0] using hB0, hO0, hf0, hg0, hS0, fun g hg => .inl (hrow0 g hg)⟩
  case round =>
    clear hx hB0 hO0 hf0 hg0 hS0 hW1
    obtain ⟨k, hk, rfl, cv1, gk, hB1, hO1, hf1, hg1, hS1, hr1⟩ := hrel
    have hfc := cells_of hf1
    have hff := frozen_of hf1
    have hgc := cells_of hg1
    have hzl := (Array.getElem?_eq_some_iff.1 hf1).1
    have hzl1 := (Array.getElem?_eq_some_iff.1 hg1).1
    have hfnl : fb < wr.heap.size := Nat.lt_of_lt_of_le hO1.fm.1 hO1.sz
    have hfnc := cells_of hO1.f
    have hfz : fb ≠ W.heap.size := by have := hO1.fm.1; omega
    have hzr : cv1.ownBlock ≠ some W.heap.size := fun e => by rcases hr1 _ e with h | h <;> omega
    have hzr1 : cv1.ownBlock ≠ some (W.heap.size + 1) := fun e => by rcases hr1 _ e with h | h <;> omega
    have hzb1 : W.heap.size + 1 ≠ bb := by have := hO1.bm; omega
    have hz01 : W.heap.size ≠ W.heap.size + 1 := by omega
    by_cases hlt : k < (B.s0.fh - B.s0.fl + 1).toNat
    · have hlt' : (k : Int) < B.s0.fh - B.s0.fl + 1 := by omega
      have hlen : (l ++ preC0 B D k).length ≤ l.length + 5 * k := by
        have := preC0_len B D k hs1
        simp; omega
      have hk4 : k ≤ 4 := by omega
      have heq := Lib.hid (preC0_succ B D k)
      have hq0 := set_two0 hf1 (i64 (B.s0.fl + (k : Int)))
      have hqc := cells_of hq0
      have hqn := cells_of ((Below.heap_setCell wr ⟨W.heap.size, 0, none⟩ (i64 (B.s0.fl + (k : Int))) fb hfz).trans hO1.f)
      have hq1 := (Below.heap_setCell wr ⟨W.heap.size, 0, none⟩ (i64 (B.s0.fl + (k : Int))) (W.heap.size + 1) (Ne.symm hz01)).trans hg1
      have hSq := hS1.set (Nat.le_refl _) 0 (i64 (B.s0.fl + (k : Int)))
      go_wp2_with (go_at_call 95; refine (from1 nA nM xb fb bb B tb tq ta tc sa sc m D (B.s0.fl + (k : Int)) g1 (l ++ preC0 B D k) cv1 _ (hO1.set hzM _ _) (hB1.set hzr hzb _ _) hh (by omega) hs1 (by omega) (by omega)).mono ?_; rintro e w' ⟨rfl, cv2, hB2, hS2⟩; have hf2 := (hS2.keep _ (by simpa [World.setCell] using hzl) hzb hzr).trans hq0; have hg2 := (hS2.keep _ (by simpa [World.setCell] using hzl1) hzb1 hzr1).trans hq1; have hO2 := (hO1.set hzM 0 (i64 (B.s0.fl + (k : Int)))).same (hS2.sameBut (by simp [World.setCell]; have := hO1.sz; omega) hB1.row); have hS3 := hSq.trans hS2; have hsz2 := hS2.size)
      go_roundw
      case rel =>
        refine ⟨k + 1, by omega, by go_num, cv2, _, ?_, by assumption, by assumption, by assumption, by assumption, ?_⟩
        · rw [heq.out, ← List.append_assoc]; assumption
        · intro g hg
          rcases hS2.row g hg with h | h
          · exact hr1 g h
          · refine .inr ?_
            simp [World.setCell] at h
            omega
      case measure => simp [intOf]; omega
    · have hke : k = (B.s0.fh - B.s0.fl + 1).toNat := by omega
      have hfin : Hid (l ++ ext0 B D = l ++ preC0 B D k) := by
        show _ = _
        rw [hke]; rfl
      have hlt' : ¬ (k : Int) < B.s0.fh - B.s0.fl + 1 := by omega
      clear hke
      go_wp2_with fail
      refine bodyPost_ret (results_none rfl _ _ _) rfl ⟨rfl, cv1, ?_, hS1⟩
      rw [hfin.out]
      exact hB1
end Go.Proofs.YtkbmpkdflgimmaaDoor
/- The map from places to depths: entering a place and storing there. -/
namespace Go.Proofs.YtkbmpkdflgimmaaDoor
open Go.RowKit Go.Shelf

theorem ents_get (M : List PE) (i : Nat) : (ents M)[i]? = (M[i]?).map fun p => ent p i := by
  simp only [ents, List.getElem?_map, List.getElem?_zipIdx, Option.map_map]
  cases M[i]? <;> simp
theorem ents_len (M : List PE) : (ents M).length = M.length := by simp [ents]
theorem findP_some (h s : Int) : ∀ (M : List PE) (k i : Nat) (v : Value), findP h s M k = some (i, v) → k ≤ i ∧ ∃ p, M[i - k]? = some p ∧ p.h = h ∧ p.s = s ∧ p.v = v
  | [], _, _, _, e => by simp [findP] at e
  | p :: M, k, i, v, e => by
    unfold findP at e
    split at e
    · rename_i hc
      simp at e hc
      obtain ⟨rfl, rfl⟩ := e
      exact ⟨Nat.le_refl _, p, by simp, hc.1.symm, hc.2.symm, rfl⟩
    · obtain ⟨h1, q, h2, h3⟩ := findP_some h s M (k + 1) i v e
      refine ⟨by omega, q, ?_, h3⟩
      rw [show i - k = (i - (k + 1)) + 1 by omega]
      simpa using h2
theorem findP_append (h s : Int) (q : PE) : ∀ (M : List PE) (k : Nat), findP h s (M ++ [q]) k = match findP h s M k with
    | some x => some x
    | none => if h == q.h && s == q.s then some (k + M.length, q.v) else none
  | [], k => by simp [findP]
  | p :: M, k => by
    simp only [List.cons_append, findP, List.length_cons]
    split
    · rfl
    · rw [findP_append h s q M (k + 1), show k + 1 + M.length = k + (M.length + 1) by omega]
/-- Storing at the entry that the place has. -/
theorem findP_set (h s : Int) (v : Value) : ∀ (M : List PE) (k i : Nat) (u : Value), findP h s M k = some (i, u) → ∀ h' s', findP h' s' (M.set (i - k) ⟨h, s, v⟩) k = if h' == h && s' == s then some (i, v) else findP h' s' M k
  | [], _, _, _, e, _, _ => by simp [findP] at e
  | p :: M, k, i, u, e, h', s' => by
    unfold findP at e
    split at e
    · rename_i hc
      simp at e hc
      obtain ⟨rfl, rfl⟩ := e
      simp only [Nat.sub_self, List.set_cons_zero, findP]
      by_cases hh : (h' == h && s' == s) = true
      · simp [hh]
      · have : (h' == p.h && s' == p.s) = false := by rw [← hc.1, ← hc.2]; simpa using hh
        simp [hh, this]
    · rename_i hc
      have h1 := (findP_some h s M (k + 1) i u e).1
      rw [show i - k = (i - (k + 1)) + 1 by omega, List.set_cons_succ]
      simp only [findP]
      by_cases hp : (h' == p.h && s' == p.s) = true
      · have : (h' == h && s' == s) = false := by
          cases hx : (h' == h && s' == s)
          · rfl
          · simp at hx hp hc
            exact absurd (by rw [← hx.2]; exact hp.2) (hc (by rw [← hx.1]; exact hp.1))
        simp [hp, this]
      · simp only [hp]
        exact findP_set h s v M (k + 1) i u e h' s'
/-- The entries when a place has been entered. -/
def entered (h s : Int) (M : List PE) : List PE := match findP h s M 0 with
  | some _ => M
  | none => M ++ [⟨h, s, .slice none 0 0⟩]
def entryAt (h s : Int) (M : List PE) : Nat := match findP h s M 0 with
  | some (i, _) => i
  | none => M.length
theorem entered_find (h s : Int) (M : List PE) : findP h s (entered h s M) 0 = some (entryAt h s M, lookV h s M) := by
  unfold entered entryAt lookV
  cases e : findP h s M 0 with
  | some x => simp [e]
  | none => simp [findP_append, e]
theorem lookV_entered (h s h' s' : Int) (M : List PE) : lookV h' s' (entered h s M) = lookV h' s' M := by
  unfold entered lookV
  cases e : findP h s M 0 with
  | some x => rfl
  | none =>
    simp only [findP_append]
    cases e2 : findP h' s' M 0 with
    | some x => rfl
    | none => by_cases hc : (h' == h && s' == s) = true <;> simp [hc]
/-- The entries when v has been stored at a place. -/
def stored (h s : Int) (v : Value) (M : List PE) : List PE := (entered h s M).set (entryAt h s M) ⟨h, s, v⟩
theorem lookV_stored (h s : Int) (v : Value) (M : List PE) (h' s' : Int) : lookV h' s' (stored h s v M) = if h' == h && s' == s then v else lookV h' s' M := by
  have h1 := findP_set h s v (entered h s M) 0 _ _ (entered_find h s M) h' s'
  rw [← lookV_entered h s h' s' M]
  unfold lookV stored
  simp only [Nat.sub_zero] at h1
  rw [h1]
  by_cases hc : (h' == h && s' == s) = true <;> simp [hc]
theorem MapAt.put {W : World} {m : Nat} {M M' : List PE} (h : MapAt W m M) : MapAt (W.putObj m (.map (ents M').toArray M'.length)) m M' := World.putObj_heap_same (Array.getElem?_eq_some_iff.1 h).1
theorem run_mapEntry90 {W : World} {m : Nat} {M : List PE} (hm : MapAt W m M) (h s : Int) :
    (Instr.mapEntry 90 (.map (some m)) (placeV h s)).run Tryd.prog W = .ok (.tuple #[lookV h s M, i64 (entryAt h s M)]) (W.putObj m (.map (ents (entered h s M)).toArray (entered h s M).length)) := by
  have hfind := run_findKey107 h s M W
  unfold Instr.mapEntry
  rw [Sem.run_bind, run_underlying Tryd.underlying90 W]
  simp only [Result.andThen_ok, Sem.run_bind, MapKept.run_getObj_map hm, run_check107, hfind]
  unfold entered entryAt lookV
  cases e : findP h s M 0 with
  | none =>
    have hz := zero40 W
    simp only [Sem.run_bind, hz, Result.andThen_ok, MapKept.run_setObj_map _ hm, Sem.run_pure, Option.map_none, Option.getD_none, World.putObj]
    have ep : (ents M).toArray.push { key := placeV h s, val := .slice none 0 0, born := M.length } = (ents (M ++ [⟨h, s, .slice none 0 0⟩])).toArray := by
      apply Array.ext'
      simp [ents, List.zipIdx_append, ent]
    rw [ep]
    simp [goInt]
  | some x =>
    obtain ⟨i, v⟩ := x
    obtain ⟨_, p, h2, h3, h4, h5⟩ := findP_some h s M 0 i v e
    simp only [Nat.sub_zero] at h2
    have hi : (ents M).toArray[i]? = some (ent p i) := by rw [List.getElem?_toArray, ents_get, h2]; rfl
    have hk : (Instr.keyThatStays (placeV p.h p.s) (placeV h s)).run Tryd.prog W = .ok (placeV h s) W := by
      rw [h3, h4]
      simp [Instr.keyThatStays, Instr.sameBits]
    have em : ((ents M).toArray.modify i fun e => { e with key := placeV h s }) = (ents M).toArray := by
      apply Array.ext_getElem?
      intro j
      rw [Array.getElem?_modify]
      split
      · rename_i hj
        subst hj
        rw [hi]
        simp [ent, h3, h4]
      · rfl
    simp only [hi, Option.map_some, Option.getD_some, ent, Sem.run_bind, hk, Result.andThen_ok, em, MapKept.run_setObj_map _ hm, Sem.run_pure, World.putObj]
    simp [goInt]
theorem findIdx_ents : ∀ (M : List PE) (k i : Nat), i < M.length → ((M.zipIdx k).map fun x => ent x.1 x.2).findIdx? (fun e => (e.born : Int) == ((k + i : Nat) : Int)) = some i
  | [], _, _, h => by simp at h
  | p :: M, k, 0, _ => by simp [List.zipIdx_cons, List.findIdx?_cons, ent]
  | p :: M, k, i + 1, h => by
    have h' := findIdx_ents M (k + 1) i (by simpa using h)
    rw [show k + 1 + i = k + (i + 1) by omega] at h'
    rw [List.zipIdx_cons, List.map_cons, List.findIdx?_cons, h']
    have : ¬ ((ent p k).born : Int) = (k : Int) + ((i : Int) + 1) := by simp only [ent]; omega
    simp [this]
theorem entryAt_lt (h s : Int) (M : List PE) : entryAt h s M < (entered h s M).length := by
  have := findP_some h s _ _ _ _ (entered_find h s M)
  obtain ⟨_, p, h2, _⟩ := this
  exact (List.getElem?_eq_some_iff.1 h2).1
theorem run_entryStore90 {W : World} {m : Nat} {M : List PE} (h s : Int) (hm : MapAt W m (entered h s M)) (v : Value) :
    (Instr.entryStore 90 (.map (some m)) (i64 (entryAt h s M)) v).run Tryd.prog W = .ok () (W.putObj m (.map (ents (stored h s v M)).toArray (stored h s v M).length)) := by
  have hlt := entryAt_lt h s M
  have hf := findIdx_ents (entered h s M) 0 (entryAt h s M) hlt
  rw [Nat.zero_add] at hf
  unfold Instr.entryStore
  simp only [Sem.run_bind, MapKept.run_getObj_map hm, Result.andThen_ok]
  have ha : (asInt (i64 (entryAt h s M))).run Tryd.prog W = .ok ((entryAt h s M : Nat) : Int) W := by simp [asInt, asIntOf]
  rw [ha]
  simp only [Result.andThen_ok]
  have hf' : (ents (entered h s M)).toArray.findIdx? (fun e => (e.born : Int) == ((entryAt h s M : Nat) : Int)) = some (entryAt h s M) := by
    rw [List.findIdx?_toArray]; exact hf
  rw [hf']
  simp only [MapKept.run_setObj_map _ hm, World.putObj]
  have hl : (stored h s v M).length = (entered h s M).length := by simp [stored]
  rw [hl]
  have em : ((ents (entered h s M)).toArray.modify (entryAt h s M) fun e => { e with val := v }) = (ents (stored h s v M)).toArray := by
    obtain ⟨_, p, h2, h3, h4, _⟩ := findP_some h s _ _ _ _ (entered_find h s M)
    apply Array.ext_getElem?
    intro j
    rw [Array.getElem?_modify, List.getElem?_toArray, List.getElem?_toArray, ents_get, ents_get, stored, List.getElem?_set]
    split
    · rename_i hj
      subst hj
      simp only [Nat.sub_zero] at h2
      rw [h2]
      simp [ent, h3, h4]
    · rfl
  rw [em]
end Go.Proofs.YtkbmpkdflgimmaaDoor
/- Contracts of the list functions: slices.Index, slices.Contains, slices.Min, greatest. -/
namespace Go.Proofs.YtkbmpkdflgimmaaDoor
open Go.RowKit Go.Shelf

def idxI (l : List Int) (x : Int) : Int := match l.findIdx? (· == x) with
  | some i => i
  | none => -1
theorem idxI_nonneg (l : List Int) (x : Int) : decide (0 ≤ idxI l x) = l.contains x := by
  unfold idxI
  cases h : l.findIdx? (· == x) with
  | none =>
    rw [List.findIdx?_eq_none_iff] at h
    have : l.contains x = false := by
      rw [List.contains_eq_any_beq, List.any_eq_false]
      intro y hy
      have := h y hy
      simp at this ⊢
      exact fun e => this e.symm
    rw [this]; rfl
  | some i =>
    obtain ⟨hlt, hx, _⟩ := List.findIdx?_eq_some_iff_getElem.1 h
    have : l.contains x = true := by
      rw [List.contains_eq_any_beq, List.any_eq_true]
      exact ⟨l[i], List.getElem_mem hlt, by simp at hx ⊢; exact hx.symm⟩
    rw [this]; simp
set_option maxRecDepth 100000 in
set_option maxHeartbeats 1000000 in
theorem index_any (n b o : Nat) (a : Option Addr) (c : Nat) (l : List Int) (x : Int) (w : World) (hl : IntsAt n w b o a l) :
    Calls Tryd.prog 105 #[.slice a l.length c, i64 x] w fun e w' => e = .returned (i64 (idxI l x)) ∧ w = w' := by
  have hlen := hl.len
  go_enter Tryd.func105, Tryd.ntmps105
  go_wp2_with fail
  go_loop [8] (fun i => ∃ k : Nat, k ≤ l.length ∧ i = .int .i64 k ∧ Hid (∀ j (h : j < l.length), j < k → l[j] ≠ x)) (fun i => l.length - (intOf i).toNat)
  case atStart => exact ⟨0, Nat.zero_le _, rfl, fun j _ h => by omega⟩
  case round =>
    obtain ⟨k, hk, rfl, hall⟩ := hrel
    by_cases hlt : k < l.length
    · have hidx := idx40 (n := l.length) (c := c) (k := k) w (hl.at_ (ne_nil_of_lt hlt)) hlt
      have hc := hl.cell k hlt
      by_cases he : x = l[k]
      · have fin : Hid (idxI l x = k) := by
          show _ = _
          have : l.findIdx? (· == x) = some k := by
            rw [List.findIdx?_eq_some_iff_getElem]
            exact ⟨hlt, by simp [he], fun j hj => by simpa using hall.out j (by omega) hj⟩
          simp [idxI, this]
        have he' : ((x == l[k]) = true) := by simp [he]
        have he := Lib.hid he
        go_wp2_with fail
        go_ret
        exact ⟨by have h := fin.out; rw [he.out] at h; rw [h]; rfl, rfl⟩
      · have he' : ((x == l[k]) = false) := by simp [he]
        have he := Lib.hid he
        go_wp2_with fail
        go_round
        case rel => exact ⟨k + 1, by omega, by go_num, fun j h hj => by
          rcases Nat.lt_or_ge j k with h' | h'
          · exact hall.out j h h'
          · obtain rfl : j = k := by omega
            exact fun e => he.out e.symm⟩
        case measure => simp [intOf]; omega
    · have fin : Hid (idxI l x = -1) := by
        show _ = _
        have : l.findIdx? (· == x) = none := by
          rw [List.findIdx?_eq_none_iff]
          intro y hy
          obtain ⟨j, h, rfl⟩ := List.getElem_of_mem hy
          simpa using hall.out j h (by omega)
        simp [idxI, this]
      go_wp2_with fail
      go_ret
      exact ⟨by rw [fin.out]; rfl, rfl⟩
theorem contains_any (n b o : Nat) (a : Option Addr) (c : Nat) (l : List Int) (x : Int) (w : World) (hl : IntsAt n w b o a l) :
    Calls Tryd.prog 94 #[.slice a l.length c, i64 x] w fun e w' => e = .returned (.bool (l.contains x)) ∧ w = w' := by
  go_enter Tryd.func94, Tryd.ntmps94
  go_wp2_with (go_at_call 105; refine (index_any n b o a c l x _ hl).mono ?_; rintro e w' ⟨rfl, rfl⟩)
  all_goals
    go_ret
    refine ⟨?_, rfl⟩
    rw [← idxI_nonneg]
    simp
    try omega
def minL (l : List Int) : Int := l.tail.foldl min (l.headD 0)
def maxL (x : Int) (l : List Int) : Int := l.foldl max x
theorem foldl_take_succ (f : Int → Int → Int) (x : Int) (l : List Int) (k : Nat) (h : k < l.length) : (l.take (k + 1)).foldl f x = f ((l.take k).foldl f x) l[k] := by
  rw [List.take_succ_eq_append_getElem h, List.foldl_append]; rfl
set_option maxRecDepth 100000 in
set_option maxHeartbeats 1000000 in
theorem greatest_any (n b o : Nat) (a : Option Addr) (c : Nat) (l : List Int) (x : Int) (w : World) (hl : IntsAt n w b o a l) :
    Calls Tryd.prog 100 #[i64 x, .slice a l.length c] w fun e w' => e = .returned (i64 (maxL x l)) ∧ w = w' := by
  have hlen := hl.len
  go_enter Tryd.func100, Tryd.ntmps100
  go_wp2_with fail
  go_loop [9, 0] (fun i v => ∃ k : Nat, k ≤ l.length ∧ i = .int .i64 k ∧ ∃ y : Int, v = i64 y ∧ Hid (y = maxL x (l.take k))) (fun i _ => l.length - (intOf i).toNat)
  case atStart => exact ⟨0, Nat.zero_le _, rfl, x, rfl, by simp [Hid, maxL]⟩
  case round =>
    obtain ⟨k, hk, rfl, y, rfl, hy⟩ := hrel
    by_cases hlt : k < l.length
    · have hidx := idx40 (n := l.length) (c := c) (k := k) w (hl.at_ (ne_nil_of_lt hlt)) hlt
      have hc := hl.cell k hlt
      have hs := Lib.hid (foldl_take_succ max x l k hlt)
      rcases Int.le_total y l[k] with hle | hle
      · go_wp2_with fail
        go_round
        case rel =>
          refine ⟨k + 1, by omega, by go_num, _, rfl, ?_⟩
          show _ = _
          have h1 := hs.out
          have h2 := hy.out
          unfold maxL at h2 ⊢
          rw [h1, ← h2]
          simp [Int.max_def]
          try omega
        case measure => simp [intOf]; omega
      · go_wp2_with fail
        go_round
        case rel =>
          refine ⟨k + 1, by omega, by go_num, _, rfl, ?_⟩
          show _ = _
          have h1 := hs.out
          have h2 := hy.out
          unfold maxL at h2 ⊢
          rw [h1, ← h2]
          simp [Int.max_def]
          try omega
        case measure => simp [intOf]; omega
    · have hke : k = l.length := by omega
      have hy' : Hid (y = maxL x l) := by
        have := hy.out
        rw [hke, List.take_length] at this
        exact this
      have hk' : ¬ (k : Int) < (l.length : Int) := by omega
      clear hke
      go_wp2_with fail
      go_ret
      exact ⟨by rw [← hy'.out]; rfl, rfl⟩
theorem minL_take (l : List Int) (k : Nat) (hk : 1 ≤ k) (h : k < l.length) : minL (l.take (k + 1)) = min (minL (l.take k)) l[k] := by
  cases l with
  | nil => simp at h
  | cons x l =>
    obtain ⟨j, rfl⟩ : ∃ j, k = j + 1 := ⟨k - 1, by omega⟩
    simp only [minL, List.take_succ_cons, List.tail_cons, List.headD_cons, List.getElem_cons_succ]
    exact foldl_take_succ min x l j (by simpa using h)
set_option maxRecDepth 100000 in
set_option maxHeartbeats 1000000 in
theorem min_any (n b o : Nat) (a : Option Addr) (c : Nat) (l : List Int) (w : World) (hl : IntsAt n w b o a l) (h0 : 0 < l.length) :
    Calls Tryd.prog 99 #[.slice a l.length c] w fun e w' => e = .returned (i64 (minL l)) ∧ w = w' := by
  have hlen := hl.len
  have hidx0 := idx40 (n := l.length) (c := c) (k := 0) w (hl.at_ (ne_nil_of_lt h0)) h0
  have hc0 := hl.cell 0 h0
  simp only [Nat.add_zero, Int.natCast_zero] at hidx0 hc0
  have h1 : ¬ (l.length : Int) < 1 := by omega
  have hm0 : Hid (l[0] = minL (l.take 1)) := by
    show _ = _
    cases l with
    | nil => simp at h0
    | cons x l => simp [minL]
  go_enter Tryd.func99, Tryd.ntmps99
  go_wp2_with fail
  go_loop [4, 3] (fun i v => ∃ k : Nat, 1 ≤ k ∧ k ≤ l.length ∧ i = .int .i64 k ∧ ∃ y : Int, v = i64 y ∧ Hid (y = minL (l.take k))) (fun i _ => l.length - (intOf i).toNat)
  case atStart => exact ⟨1, Nat.le_refl _, by omega, rfl, _, rfl, hm0⟩
  case round =>
    clear hidx0 hc0
    obtain ⟨k, hk1, hk, rfl, y, rfl, hy⟩ := hrel
    by_cases hlt : k < l.length
    · have hidx := idx40 (n := l.length) (c := c) (k := k) w (hl.at_ (ne_nil_of_lt hlt)) hlt
      have hc := hl.cell k hlt
      have hs := Lib.hid (minL_take l k hk1 hlt)
      rcases Int.le_total y l[k] with hle | hle
      · go_wp2_with fail
        go_round
        case rel =>
          refine ⟨k + 1, by omega, by omega, by go_num, _, rfl, ?_⟩
          show _ = _
          rw [hs.out, ← hy.out]
          simp [Int.min_def]
          try omega
        case measure => simp [intOf]; omega
      · go_wp2_with fail
        go_round
        case rel =>
          refine ⟨k + 1, by omega, by omega, by go_num, _, rfl, ?_⟩
          show _ = _
          rw [hs.out, ← hy.out]
          simp [Int.min_def]
          try omega
        case measure => simp [intOf]; omega
    · have hke : k = l.length := by omega
      have hy' : Hid (y = minL l) := by
        have := hy.out
        rw [hke, List.take_length] at this
        exact this
      have hk' : ¬ (k : Int) < (l.length : Int) := by omega
      clear hke
      go_wp2_with fail
      go_ret
      exact ⟨by rw [← hy'.out]; rfl, rfl⟩
def EndsPost (l : List Int) (w : World) (e : Ending) (w' : World) : Prop := e = .returned (.agg #[i64 (minL l), i64 (maxL (l.head?.getD 0) l)]) ∧ Below w.heap.size w w'
set_option maxRecDepth 100000 in
set_option maxHeartbeats 2000000 in
theorem ends_any (n b o : Nat) (a : Option Addr) (c : Nat) (l : List Int) (w : World) (hl : IntsAt n w b o a l) (h0 : 0 < l.length) (hn : n ≤ w.heap.size) :
    Calls Tryd.prog 75 #[.slice a l.length c] w (EndsPost l w) := by
  have hlen := hl.len
  have hidx0 : ∀ W, (Instr.indexAt 40 (.slice a l.length c) (.int .i64 0)).run Tryd.prog W = .ok (.pointer (some ⟨b, o, none⟩)) W := fun W => by
    have := idx40 (n := l.length) (c := c) (k := 0) W (hl.at_ (ne_nil_of_lt h0)) h0
    simpa using this
  go_enter Tryd.func75, Tryd.ntmps75
  go_wp2_with fail
  have hb1 : Below w.heap.size w (w.alloc (.cells #[i64 0, i64 0] 24)) := (Below.refl _ w).alloc (Nat.le_refl _) _
  have hI : IntsAt n (w.alloc (.cells #[i64 0, i64 0] 24)) b o a l := hl.same ((Same.of_below hb1).mono hn)
  have hId : IntsAt n (w.alloc (.cells #[i64 0, i64 0] 24)).drew b o a l := ⟨hI.len, hI.at_, hI.lt, hI.cell⟩
  have hcg : ∀ c : Array Value, (w.alloc (.cells c 24)).cell? ⟨b, o, none⟩ = some (i64 (l.headD 0)) := fun c => by
    have hI : IntsAt n (w.alloc (.cells c 24)) b o a l := hl.same ((Same.of_below ((Below.refl _ w).alloc (Nat.le_refl _) _)).mono hn)
    have := hI.cell 0 h0
    rw [Nat.add_zero] at this
    rw [this]
    cases l with
    | nil => simp at h0
    | cons x l => rfl
  go_region_held3 (fun W => W.cell? ⟨b, o, none⟩ = some (i64 (l.headD 0))) (exact hcg _) (first | (go_at_call 99; refine (min_any n b o a c l _ hId h0).mono ?_; rintro e w' ⟨rfl, rfl⟩) | (go_at_call 100; refine (greatest_any n b o a c l _ _ hId).mono ?_; rintro e w' ⟨rfl, rfl⟩))
  go_wp2_with fail
  refine bodyPost_ret (v := .agg #[i64 (minL l), i64 (maxL (l.head?.getD 0) l)]) (by simp [results, Tryd.f75, go_sem]) rfl ⟨rfl, ?_⟩
  exact ((Below.refl _ w).alloc (Nat.le_refl _) _).drew
end Go.Proofs.YtkbmpkdflgimmaaDoor
/- The contract of opened: the book in the calculation. -/
namespace Go.Proofs.YtkbmpkdflgimmaaDoor
open Go.RowKit Go.Shelf

/-- The package's variables: nowhere, unknown. -/
structure GL (n : Nat) (W : World) : Prop where
  n3 : 3 ≤ n
  now0 : W.cell? ⟨1, 0, none⟩ = some (i64 (-1))
  now1 : W.cell? ⟨1, 1, none⟩ = some (i64 (-1))
  unk0 : W.cell? ⟨2, 0, none⟩ = some (i64 (-41))
  unk1 : W.cell? ⟨2, 1, none⟩ = some (i64 (-41))
theorem GL.same {n : Nat} {W W' : World} (h : GL n W) (hb : Same n W W') : GL n W' := by
  have := h.n3
  exact ⟨h.n3, (hb.cell (p := ⟨1, 0, none⟩) (by show 1 < n; omega)).trans h.now0, (hb.cell (p := ⟨1, 1, none⟩) (by show 1 < n; omega)).trans h.now1, (hb.cell (p := ⟨2, 0, none⟩) (by show 2 < n; omega)).trans h.unk0, (hb.cell (p := ⟨2, 1, none⟩) (by show 2 < n; omega)).trans h.unk1⟩

/-- How deep it was at a place, by the first k soundings, without some. -/
def depK (l : List Sound) (but : List Int) (k : Nat) (h s : Int) : List Int :=
  (List.range k).filterMap fun i => match l[i]? with
    | some y => if y.hour == h && y.shore == s && !but.contains (i : Int) then some y.deep else none
    | none => none
def dep (l : List Sound) (but : List Int) : Int → Int → List Int := depK l but l.length
theorem depK_succ (l : List Sound) (but : List Int) (k : Nat) (h s : Int) (hk : k < l.length) :
    depK l but (k + 1) h s = depK l but k h s ++ (if l[k].hour == h && l[k].shore == s && !but.contains (k : Int) then [l[k].deep] else []) := by
  unfold depK
  rw [List.range_succ, List.filterMap_append]
  congr 1
  simp only [List.filterMap_cons, List.filterMap_nil, List.getElem?_eq_getElem hk]
  split <;> rename_i h1 <;> split at h1 <;> simp_all
theorem depK_len (l : List Sound) (but : List Int) (k : Nat) (h s : Int) : (depK l but k h s).length ≤ k := by
  unfold depK
  refine Nat.le_trans (List.length_filterMap_le _ _) ?_
  simp
/-- A valid book. -/
structure VB (B : Book) : Prop where
  h1 : 1 ≤ B.tides.length
  h24 : B.tides.length ≤ 24
  hour : ∀ k, k < B.tides.length → HourOk B k
  sane : Sane B
  sh0 : ShOk B.s0
  sh1 : ShOk B.s1
  s6 : B.sounds.length ≤ 6
  shour : ∀ y ∈ B.sounds, 0 ≤ y.hour
theorem eq_place (a b c d : Int) (w : World) : (Op.equalIn 10000 107 (.agg #[i64 a, i64 b]) (.agg #[i64 c, i64 d])).run Tryd.prog w = .ok (a == c && b == d) w := run_placeEqIn 9998 a b c d w
theorem abs_world {P : Program} {c : Code} {Q : Exit → Act → World → Prop} {a : Act} {w : World} (F : World → Prop) (hF : F w) (h : ∀ w', F w' → Code.wp P c Q a w') : Code.wp P c Q a w := h w hF
/-- A map of places that this call owns, with all rows, each in a block of its own. -/
structure MapOwn (base m : Nat) (W : World) (M : List PE) (D : Int → Int → List Int) : Prop where
  at_ : MapAt W m M
  lt : m < base
  row : ∀ h s, W.ownsRow base 3 1 (lookV h s M) (D h s).length ((D h s).map i64)
  apart : ∀ h s h' s' g, (lookV h s M).ownBlock = some g → (lookV h' s' M).ownBlock = some g → h = h' ∧ s = s'
theorem MapOwn.below {base m : Nat} {W W' : World} {M : List PE} {D} (h : MapOwn base m W M D) (hb : Below W.heap.size W W') : MapOwn base m W' M D :=
  ⟨(hb.block m (Array.getElem?_eq_some_iff.1 h.at_).1).trans h.at_, h.lt, fun a b => (h.row a b).kept (row := none) ⟨hb.os, hb.tape, hb.output, hb.size, fun i hi _ => hb.block i hi⟩ (by cases (lookV a b M).ownBlock <;> simp), h.apart⟩
theorem put_grown (W : World) (m : Nat) (o : Obj) : W.grownBy (W.putObj m o) (some m) := ⟨rfl, rfl, rfl, by simp, fun k _ hk => World.putObj_heap_other (fun e => hk (by rw [e]))⟩
theorem MapOwn.not_m {base m : Nat} {W : World} {M : List PE} {D} (h : MapOwn base m W M D) (a b : Int) : (lookV a b M).ownBlock ≠ some m := fun e => by
  have := ((h.row a b).lt m e).1
  have := h.lt
  omega
theorem MapOwn.enter {base m : Nat} {W : World} {M : List PE} {D} (h : MapOwn base m W M D) (a b : Int) :
    MapOwn base m (W.putObj m (.map (ents (entered a b M)).toArray (entered a b M).length)) (entered a b M) D := by
  refine ⟨h.at_.put, h.lt, fun x y => ?_, fun x y x' y' g => ?_⟩
  · rw [lookV_entered]
    exact (h.row x y).kept (put_grown W m _) (.inr (h.not_m x y))
  · rw [lookV_entered, lookV_entered]
    exact h.apart x y x' y' g
theorem MapOwn.store {base m : Nat} {W W' : World} {M : List PE} {D D' : Int → Int → List Int} {a b x : Int} {v : Value} (h : MapOwn base m W (entered a b M) D)
    (hv : W'.ownsRow base 3 1 v ((D a b).length + 1) ((D a b).map i64 ++ [i64 x])) (hg : W.grownBy W' (lookV a b M).ownBlock) (hl : v.ownBlock = (lookV a b M).ownBlock ∨ v.ownBlock = some W.heap.size)
    (hD : ∀ h' s', D' h' s' = if h' == a && s' == b then D a b ++ [x] else D h' s') :
    MapAt W' m (entered a b M) ∧ MapOwn base m (W'.putObj m (.map (ents (stored a b v M)).toArray (stored a b v M).length)) (stored a b v M) D' := by
  have hm : MapAt W' m (entered a b M) := (hg.block m (Array.getElem?_eq_some_iff.1 h.at_).1 (fun e => h.not_m a b (by rw [lookV_entered]; exact e.symm))).trans h.at_
  refine ⟨hm, hm.put, h.lt, fun h' s' => ?_, fun h1 s1 h2 s2 g => ?_⟩
  · rw [lookV_stored, hD]
    by_cases hc : (h' == a && s' == b) = true
    · rw [if_pos hc, if_pos hc, List.length_append, List.map_append]
      refine World.ownsRow.kept hv (put_grown W' m _) (.inr (fun e => ?_))
      have := (hv.lt m e).1
      have := h.lt
      omega
    · rw [if_neg hc, if_neg hc]
      have hr := h.row h' s'
      have hne := h.not_m h' s'
      have hap := h.apart h' s' a b
      rw [lookV_entered] at hr hne hap
      rw [lookV_entered] at hap
      refine World.ownsRow.kept (hr.kept hg ?_) (put_grown W' m _) (.inr hne)
      cases hb : (lookV h' s' M).ownBlock with
      | none => exact .inl rfl
      | some g =>
        refine .inr (fun e => hc ?_)
        obtain ⟨e1, e2⟩ := hap g hb e.symm
        simp [e1, e2]
  · rw [lookV_stored, lookV_stored]
    have old : ∀ h1 s1 g, (lookV h1 s1 M).ownBlock = some g → g < W.heap.size := fun h1 s1 g e => by
      have hr := h.row h1 s1
      rw [lookV_entered] at hr
      exact (hr.lt g e).2
    have ap : ∀ h1 s1 h2 s2 g, (lookV h1 s1 M).ownBlock = some g → (lookV h2 s2 M).ownBlock = some g → h1 = h2 ∧ s1 = s2 := fun h1 s1 h2 s2 g => by
      have := h.apart h1 s1 h2 s2 g
      rwa [lookV_entered, lookV_entered] at this
    by_cases hc1 : (h1 == a && s1 == b) = true <;> by_cases hc2 : (h2 == a && s2 == b) = true
    · simp at hc1 hc2
      intro _ _
      exact ⟨hc1.1.trans hc2.1.symm, hc1.2.trans hc2.2.symm⟩
    · rw [if_pos hc1, if_neg hc2]
      simp at hc1
      intro e1 e2
      rcases hl with hl | hl
      · rw [hc1.1, hc1.2]; exact ap a b h2 s2 g (hl.symm.trans e1) e2
      · have := old _ _ _ e2
        rw [hl] at e1
        simp at e1
        omega
    · rw [if_neg hc1, if_pos hc2]
      simp at hc2
      intro e1 e2
      rcases hl with hl | hl
      · rw [hc2.1, hc2.2]; exact ap h1 s1 a b g e1 (hl.symm.trans e2)
      · have := old _ _ _ e1
        rw [hl] at e2
        simp at e2
        omega
    · rw [if_neg hc1, if_neg hc2]
      exact ap h1 s1 h2 s2 g
abbrev zero93 : Array Value := #[.slice none 0 0, i64 0, i64 0, i64 0, i64 0, i64 0, i64 0, i64 0, i64 0, i64 0, i64 0, i64 0, i64 0, .slice none 0 0, .map none, .slice none 0 0]
/-- Between the rounds over the soundings. -/
structure OL (z : Nat) (B : Book) (ta : Option Addr) (tc : Nat) (sa : Option Addr) (sc : Nat) (D : Int → Int → List Int) (W0 W : World) : Prop where
  below : Below z W0 W
  x : W.heap[z]? = some (.cells (bookCells B ta tc sa sc) 30 (0, 0))
  r : W.heap[z + 1]? = some (.cells zero93 93 (0, 0))
  b : W.heap[z + 1 + 1 + 1]? = some (.cells (calcCells B ta tc sa sc (z + 1 + 1) (.slice none 0 0)) 93 (0, 0))
  map : ∃ M, MapOwn (z + 1 + 1 + 1 + 1) (z + 1 + 1) W M D
theorem OL.lt {z B ta tc sa sc D W0 W} (h : OL z B ta tc sa sc D W0 W) : z + 3 < W.heap.size := (Array.getElem?_eq_some_iff.1 h.b).1
theorem OL.more {z B ta tc sa sc D W0 W W'} (h : OL z B ta tc sa sc D W0 W) (hb : Below W.heap.size W W') : OL z B ta tc sa sc D W0 W' := by
  have := h.lt
  obtain ⟨M, hM⟩ := h.map
  exact ⟨h.below.trans (hb.mono (by omega)), (hb.block _ (by omega)).trans h.x, (hb.block _ (by omega)).trans h.r, (hb.block _ (by omega)).trans h.b, M, hM.below hb⟩
theorem run_makeMap90 (W : World) : (Instr.makeMap 90 none).run Tryd.prog W = .ok (.map (some W.heap.size)) (W.alloc (.map #[] 0)) := by kernel_rfl
theorem info3 : (Tryd.prog.info? 3).map (fun i => (i.zero, i.size, i.bytes)) = some (some (i64 0), 1, 8) := by kernel_rfl
theorem depK_zero (l : List Sound) (but : List Int) (h s : Int) : depK l but 0 h s = [] := rfl
theorem addr_add (g j : Nat) : (⟨g, 0, none⟩ : Addr).add j = ⟨g, j, none⟩ := by unfold Addr.add; split <;> simp_all
theorem ownsRow_of {w w' : World} {base : Nat} {e : TypeId} {size : Nat} {v : Value} {n : Nat} {xs : List Value} (h : w.ownsRow base e size v n xs) (hk : ∀ g, v.ownBlock = some g → w'.heap[g]? = w.heap[g]?) : w'.ownsRow base e size v n xs := by
  refine ⟨h.1, ?_⟩
  rcases h.2 with h2 | ⟨g, cap, cur, rfl, h3, h4, h5⟩
  · exact .inl h2
  · exact .inr ⟨g, cap, cur, rfl, h3, (hk g rfl).trans h4, h5⟩
theorem MapOwn.of_heap {base m : Nat} {W W' : World} {M : List PE} {D} (h : MapOwn base m W M D) (hm : W'.heap[m]? = W.heap[m]?) (hk : ∀ g, base ≤ g → g < W.heap.size → W'.heap[g]? = W.heap[g]?) : MapOwn base m W' M D :=
  ⟨hm.trans h.at_, h.lt, fun a b => ownsRow_of (h.row a b) (fun g e => hk g ((h.row a b).lt g e).1 ((h.row a b).lt g e).2), h.apart⟩
theorem ints_of_row {base : Nat} {W : World} {v : Value} {l : List Int} (h : W.ownsRow base 3 1 v l.length (l.map i64)) (hl : l.length ≤ 1000) : ∃ b o a c, v = .slice a l.length c ∧ IntsAt W.heap.size W b o a l ∧ (l ≠ [] → base ≤ b) := by
  rcases h.2 with ⟨rfl, h0⟩ | ⟨g, cap, cur, rfl, h3, h4, h5, h6, h7, h8⟩
  · have : l = [] := List.length_eq_zero_iff.1 h0
    subst this
    exact ⟨0, 0, none, 0, rfl, ⟨by simp, fun h => absurd rfl h, fun h => absurd rfl h, fun k h => by simp at h⟩, fun h => absurd rfl h⟩
  · refine ⟨g, 0, some ⟨g, 0, none⟩, cap, rfl, ⟨by omega, fun _ => rfl, fun _ => (Array.getElem?_eq_some_iff.1 h4).1, fun k hk => ?_⟩, fun _ => h3⟩
    have := h.cells (g := g) rfl k (i64 l[k]) (by simp [hk])
    rw [addr_add] at this
    simpa using this
theorem MapOwn.fix {base m bb : Nat} {W : World} {M : List PE} {D : Int → Int → List Int} (h : MapOwn base m W M D) (hb : bb < base) (hm : m ≠ bb) (hl : ∀ a b, (D a b).length ≤ 1000) : MapFix bb W.heap.size W m D := by
  refine ⟨⟨(Array.getElem?_eq_some_iff.1 h.at_).1, hm⟩, M, h.at_, fun a b => ?_⟩
  obtain ⟨x, o, p, c, e, hi, hx⟩ := ints_of_row (h.row a b) (hl a b)
  exact ⟨x, o, p, c, e, hi, fun hne => by have := hx hne; omega⟩
theorem flatC_get : ∀ (l : List (Int × Int)) (k : Nat) (h : k < l.length), (flatC l)[k * 2]? = some (i64 l[k].1) ∧ (flatC l)[k * 2 + 1]? = some (i64 l[k].2)
  | f :: l, 0, _ => by simp [flatC]
  | f :: l, k + 1, h => by
    have := flatC_get l k (by simpa using h)
    have e : flatC (f :: l) = i64 f.1 :: i64 f.2 :: flatC l := by simp [flatC]
    rw [e, show (k + 1) * 2 = k * 2 + 1 + 1 by omega]
    simpa using this
theorem cans_of_row {base : Nat} {W : World} {v : Value} {l : List (Int × Int)} (h : W.ownsRow base 99 2 v l.length (flatC l)) (hl : l.length ≤ 1000) : ∃ b a c, v = .slice a l.length c ∧ CansAt W.heap.size W b 0 a l ∧ (l ≠ [] → base ≤ b) := by
  rcases h.2 with ⟨rfl, h0⟩ | ⟨g, cap, cur, rfl, h3, h4, h5, h6, h7, h8⟩
  · have : l = [] := List.length_eq_zero_iff.1 h0
    subst this
    exact ⟨0, none, 0, rfl, ⟨by simp, fun h => absurd rfl h, fun h => absurd rfl h, fun k h => by simp at h, fun k h => by simp at h⟩, fun h => absurd rfl h⟩
  · refine ⟨g, some ⟨g, 0, none⟩, cap, rfl, ⟨by omega, fun _ => rfl, fun _ => (Array.getElem?_eq_some_iff.1 h4).1, fun k hk => ?_, fun k hk => ?_⟩, fun _ => h3⟩
    · have := h.cells (g := g) rfl (k * 2) _ (flatC_get l k hk).1
      rw [addr_add] at this
      simpa using this
    · have := h.cells (g := g) rfl (k * 2 + 1) _ (flatC_get l k hk).2
      rw [addr_add] at this
      simpa [Nat.add_assoc] using this
theorem abs_post {P : Program} {f : Func} {R : Ending → World → Prop} {e : Exit} {a : Act} {w : World} (F : World → Prop) (hF : F w) (h : ∀ w', F w' → bodyPost P f R e a w') : bodyPost P f R e a w := h w hF
theorem setCell_at {W : World} {b : Nat} {c : Array Value} {t : TypeId} {z : Nat × Nat} (h : W.heap[b]? = some (.cells c t z)) (j : Nat) (v : Value) : (W.setCell ⟨b, j, none⟩ v).heap[b]? = some (.cells (c.setIfInBounds j v) t z) := by simp [World.setCell, Array.getElem?_modify, h]
theorem set16 {W : World} {b : Nat} {t : TypeId} {c0 c1 c2 c3 c4 c5 c6 c7 c8 c9 c10 c11 c12 c13 c14 c15 : Value} (h : W.heap[b]? = some (.cells #[c0, c1, c2, c3, c4, c5, c6, c7, c8, c9, c10, c11, c12, c13, c14, c15] t (0, 0))) (v0 v1 v2 v3 v4 v5 v6 v7 v8 v9 v10 v11 v12 v13 v14 v15 : Value) :
    ((((((((((((((((W.setCell ⟨b, 0, none⟩ v0).setCell ⟨b, 1, none⟩ v1).setCell ⟨b, 2, none⟩ v2).setCell ⟨b, 3, none⟩ v3).setCell ⟨b, 4, none⟩ v4).setCell ⟨b, 5, none⟩ v5).setCell ⟨b, 6, none⟩ v6).setCell ⟨b, 7, none⟩ v7).setCell ⟨b, 8, none⟩ v8).setCell ⟨b, 9, none⟩ v9).setCell ⟨b, 10, none⟩ v10).setCell ⟨b, 11, none⟩ v11).setCell ⟨b, 12, none⟩ v12).setCell ⟨b, 13, none⟩ v13).setCell ⟨b, 14, none⟩ v14).setCell ⟨b, 15, none⟩ v15).heap[b]? = some (.cells #[v0, v1, v2, v3, v4, v5, v6, v7, v8, v9, v10, v11, v12, v13, v14, v15] t (0, 0)) := by
  have q0 : (W.setCell ⟨b, 0, none⟩ v0).heap[b]? = some (.cells #[v0, c1, c2, c3, c4, c5, c6, c7, c8, c9, c10, c11, c12, c13, c14, c15] t (0, 0)) := by simpa using setCell_at h 0 v0
  have q1 : ((W.setCell ⟨b, 0, none⟩ v0).setCell ⟨b, 1, none⟩ v1).heap[b]? = some (.cells #[v0, v1, c2, c3, c4, c5, c6, c7, c8, c9, c10, c11, c12, c13, c14, c15] t (0, 0)) := by simpa using setCell_at q0 1 v1
  have q2 : (((W.setCell ⟨b, 0, none⟩ v0).setCell ⟨b, 1, none⟩ v1).setCell ⟨b, 2, none⟩ v2).heap[b]? = some (.cells #[v0, v1, v2, c3, c4, c5, c6, c7, c8, c9, c10, c11, c12, c13, c14, c15] t (0, 0)) := by simpa using setCell_at q1 2 v2
  have q3 : ((((W.setCell ⟨b, 0, none⟩ v0).setCell ⟨b, 1, none⟩ v1).setCell ⟨b, 2, none⟩ v2).setCell ⟨b, 3, none⟩ v3).heap[b]? = some (.cells #[v0, v1, v2, v3, c4, c5, c6, c7, c8, c9, c10, c11, c12, c13, c14, c15] t (0, 0)) := by simpa using setCell_at q2 3 v3
  have q4 : (((((W.setCell ⟨b, 0, none⟩ v0).setCell ⟨b, 1, none⟩ v1).setCell ⟨b, 2, none⟩ v2).setCell ⟨b, 3, none⟩ v3).setCell ⟨b, 4, none⟩ v4).heap[b]? = some (.cells #[v0, v1, v2, v3, v4, c5, c6, c7, c8, c9, c10, c11, c12, c13, c14, c15] t (0, 0)) := by simpa using setCell_at q3 4 v4
  have q5 : ((((((W.setCell ⟨b, 0, none⟩ v0).setCell ⟨b, 1, none⟩ v1).setCell ⟨b, 2, none⟩ v2).setCell ⟨b, 3, none⟩ v3).setCell ⟨b, 4, none⟩ v4).setCell ⟨b, 5, none⟩ v5).heap[b]? = some (.cells #[v0, v1, v2, v3, v4, v5, c6, c7, c8, c9, c10, c11, c12, c13, c14, c15] t (0, 0)) := by simpa using setCell_at q4 5 v5
  have q6 : (((((((W.setCell ⟨b, 0, none⟩ v0).setCell ⟨b, 1, none⟩ v1).setCell ⟨b, 2, none⟩ v2).setCell ⟨b, 3, none⟩ v3).setCell ⟨b, 4, none⟩ v4).setCell ⟨b, 5, none⟩ v5).setCell ⟨b, 6, none⟩ v6).heap[b]? = some (.cells #[v0, v1, v2, v3, v4, v5, v6, c7, c8, c9, c10, c11, c12, c13, c14, c15] t (0, 0)) := by simpa using setCell_at q5 6 v6
  have q7 : ((((((((W.setCell ⟨b, 0, none⟩ v0).setCell ⟨b, 1, none⟩ v1).setCell ⟨b, 2, none⟩ v2).setCell ⟨b, 3, none⟩ v3).setCell ⟨b, 4, none⟩ v4).setCell ⟨b, 5, none⟩ v5).setCell ⟨b, 6, none⟩ v6).setCell ⟨b, 7, none⟩ v7).heap[b]? = some (.cells #[v0, v1, v2, v3, v4, v5, v6, v7, c8, c9, c10, c11, c12, c13, c14, c15] t (0, 0)) := by simpa using setCell_at q6 7 v7
  have q8 : (((((((((W.setCell ⟨b, 0, none⟩ v0).setCell ⟨b, 1, none⟩ v1).setCell ⟨b, 2, none⟩ v2).setCell ⟨b, 3, none⟩ v3).setCell ⟨b, 4, none⟩ v4).setCell ⟨b, 5, none⟩ v5).setCell ⟨b, 6, none⟩ v6).setCell ⟨b, 7, none⟩ v7).setCell ⟨b, 8, none⟩ v8).heap[b]? = some (.cells #[v0, v1, v2, v3, v4, v5, v6, v7, v8, c9, c10, c11, c12, c13, c14, c15] t (0, 0)) := by simpa using setCell_at q7 8 v8
  have q9 : ((((((((((W.setCell ⟨b, 0, none⟩ v0).setCell ⟨b, 1, none⟩ v1).setCell ⟨b, 2, none⟩ v2).setCell ⟨b, 3, none⟩ v3).setCell ⟨b, 4, none⟩ v4).setCell ⟨b, 5, none⟩ v5).setCell ⟨b, 6, none⟩ v6).setCell ⟨b, 7, none⟩ v7).setCell ⟨b, 8, none⟩ v8).setCell ⟨b, 9, none⟩ v9).heap[b]? = some (.cells #[v0, v1, v2, v3, v4, v5, v6, v7, v8, v9, c10, c11, c12, c13, c14, c15] t (0, 0)) := by simpa using setCell_at q8 9 v9
  have q10 : (((((((((((W.setCell ⟨b, 0, none⟩ v0).setCell ⟨b, 1, none⟩ v1).setCell ⟨b, 2, none⟩ v2).setCell ⟨b, 3, none⟩ v3).setCell ⟨b, 4, none⟩ v4).setCell ⟨b, 5, none⟩ v5).setCell ⟨b, 6, none⟩ v6).setCell ⟨b, 7, none⟩ v7).setCell ⟨b, 8, none⟩ v8).setCell ⟨b, 9, none⟩ v9).setCell ⟨b, 10, none⟩ v10).heap[b]? = some (.cells #[v0, v1, v2, v3, v4, v5, v6, v7, v8, v9, v10, c11, c12, c13, c14, c15] t (0, 0)) := by simpa using setCell_at q9 10 v10
  have q11 : ((((((((((((W.setCell ⟨b, 0, none⟩ v0).setCell ⟨b, 1, none⟩ v1).setCell ⟨b, 2, none⟩ v2).setCell ⟨b, 3, none⟩ v3).setCell ⟨b, 4, none⟩ v4).setCell ⟨b, 5, none⟩ v5).setCell ⟨b, 6, none⟩ v6).setCell ⟨b, 7, none⟩ v7).setCell ⟨b, 8, none⟩ v8).setCell ⟨b, 9, none⟩ v9).setCell ⟨b, 10, none⟩ v10).setCell ⟨b, 11, none⟩ v11).heap[b]? = some (.cells #[v0, v1, v2, v3, v4, v5, v6, v7, v8, v9, v10, v11, c12, c13, c14, c15] t (0, 0)) := by simpa using setCell_at q10 11 v11
  have q12 : (((((((((((((W.setCell ⟨b, 0, none⟩ v0).setCell ⟨b, 1, none⟩ v1).setCell ⟨b, 2, none⟩ v2).setCell ⟨b, 3, none⟩ v3).setCell ⟨b, 4, none⟩ v4).setCell ⟨b, 5, none⟩ v5).setCell ⟨b, 6, none⟩ v6).setCell ⟨b, 7, none⟩ v7).setCell ⟨b, 8, none⟩ v8).setCell ⟨b, 9, none⟩ v9).setCell ⟨b, 10, none⟩ v10).setCell ⟨b, 11, none⟩ v11).setCell ⟨b, 12, none⟩ v12).heap[b]? = some (.cells #[v0, v1, v2, v3, v4, v5, v6, v7, v8, v9, v10, v11, v12, c13, c14, c15] t (0, 0)) := by simpa using setCell_at q11 12 v12
  have q13 : ((((((((((((((W.setCell ⟨b, 0, none⟩ v0).setCell ⟨b, 1, none⟩ v1).setCell ⟨b, 2, none⟩ v2).setCell ⟨b, 3, none⟩ v3).setCell ⟨b, 4, none⟩ v4).setCell ⟨b, 5, none⟩ v5).setCell ⟨b, 6, none⟩ v6).setCell ⟨b, 7, none⟩ v7).setCell ⟨b, 8, none⟩ v8).setCell ⟨b, 9, none⟩ v9).setCell ⟨b, 10, none⟩ v10).setCell ⟨b, 11, none⟩ v11).setCell ⟨b, 12, none⟩ v12).setCell ⟨b, 13, none⟩ v13).heap[b]? = some (.cells #[v0, v1, v2, v3, v4, v5, v6, v7, v8, v9, v10, v11, v12, v13, c14, c15] t (0, 0)) := by simpa using setCell_at q12 13 v13
  have q14 : (((((((((((((((W.setCell ⟨b, 0, none⟩ v0).setCell ⟨b, 1, none⟩ v1).setCell ⟨b, 2, none⟩ v2).setCell ⟨b, 3, none⟩ v3).setCell ⟨b, 4, none⟩ v4).setCell ⟨b, 5, none⟩ v5).setCell ⟨b, 6, none⟩ v6).setCell ⟨b, 7, none⟩ v7).setCell ⟨b, 8, none⟩ v8).setCell ⟨b, 9, none⟩ v9).setCell ⟨b, 10, none⟩ v10).setCell ⟨b, 11, none⟩ v11).setCell ⟨b, 12, none⟩ v12).setCell ⟨b, 13, none⟩ v13).setCell ⟨b, 14, none⟩ v14).heap[b]? = some (.cells #[v0, v1, v2, v3, v4, v5, v6, v7, v8, v9, v10, v11, v12, v13, v14, c15] t (0, 0)) := by simpa using setCell_at q13 14 v14
  have q15 : ((((((((((((((((W.setCell ⟨b, 0, none⟩ v0).setCell ⟨b, 1, none⟩ v1).setCell ⟨b, 2, none⟩ v2).setCell ⟨b, 3, none⟩ v3).setCell ⟨b, 4, none⟩ v4).setCell ⟨b, 5, none⟩ v5).setCell ⟨b, 6, none⟩ v6).setCell ⟨b, 7, none⟩ v7).setCell ⟨b, 8, none⟩ v8).setCell ⟨b, 9, none⟩ v9).setCell ⟨b, 10, none⟩ v10).setCell ⟨b, 11, none⟩ v11).setCell ⟨b, 12, none⟩ v12).setCell ⟨b, 13, none⟩ v13).setCell ⟨b, 14, none⟩ v14).setCell ⟨b, 15, none⟩ v15).heap[b]? = some (.cells #[v0, v1, v2, v3, v4, v5, v6, v7, v8, v9, v10, v11, v12, v13, v14, v15] t (0, 0)) := by simpa using setCell_at q14 15 v15
  exact q15
theorem set1 {W0 W : World} {b : Nat} (h : W.os = W0.os ∧ W.tape = W0.tape ∧ W.output = W0.output ∧ W.heap.size = W0.heap.size ∧ (∀ k, k ≠ b → W.heap[k]? = W0.heap[k]?)) (j : Nat) (v : Value) :
    (W.setCell ⟨b, j, none⟩ v).os = W0.os ∧ (W.setCell ⟨b, j, none⟩ v).tape = W0.tape ∧ (W.setCell ⟨b, j, none⟩ v).output = W0.output ∧ (W.setCell ⟨b, j, none⟩ v).heap.size = W0.heap.size ∧ (∀ k, k ≠ b → (W.setCell ⟨b, j, none⟩ v).heap[k]? = W0.heap[k]?) :=
  ⟨h.1, h.2.1, h.2.2.1, by simpa [World.setCell] using h.2.2.2.1, fun k hk => (Below.heap_setCell _ _ _ k hk).trans (h.2.2.2.2 k hk)⟩
theorem keep16 {W : World} {b : Nat} (v0 v1 v2 v3 v4 v5 v6 v7 v8 v9 v10 v11 v12 v13 v14 v15 : Value) :
    ((((((((((((((((W.setCell ⟨b, 0, none⟩ v0).setCell ⟨b, 1, none⟩ v1).setCell ⟨b, 2, none⟩ v2).setCell ⟨b, 3, none⟩ v3).setCell ⟨b, 4, none⟩ v4).setCell ⟨b, 5, none⟩ v5).setCell ⟨b, 6, none⟩ v6).setCell ⟨b, 7, none⟩ v7).setCell ⟨b, 8, none⟩ v8).setCell ⟨b, 9, none⟩ v9).setCell ⟨b, 10, none⟩ v10).setCell ⟨b, 11, none⟩ v11).setCell ⟨b, 12, none⟩ v12).setCell ⟨b, 13, none⟩ v13).setCell ⟨b, 14, none⟩ v14).setCell ⟨b, 15, none⟩ v15).os = W.os ∧ ((((((((((((((((W.setCell ⟨b, 0, none⟩ v0).setCell ⟨b, 1, none⟩ v1).setCell ⟨b, 2, none⟩ v2).setCell ⟨b, 3, none⟩ v3).setCell ⟨b, 4, none⟩ v4).setCell ⟨b, 5, none⟩ v5).setCell ⟨b, 6, none⟩ v6).setCell ⟨b, 7, none⟩ v7).setCell ⟨b, 8, none⟩ v8).setCell ⟨b, 9, none⟩ v9).setCell ⟨b, 10, none⟩ v10).setCell ⟨b, 11, none⟩ v11).setCell ⟨b, 12, none⟩ v12).setCell ⟨b, 13, none⟩ v13).setCell ⟨b, 14, none⟩ v14).setCell ⟨b, 15, none⟩ v15).tape = W.tape ∧ ((((((((((((((((W.setCell ⟨b, 0, none⟩ v0).setCell ⟨b, 1, none⟩ v1).setCell ⟨b, 2, none⟩ v2).setCell ⟨b, 3, none⟩ v3).setCell ⟨b, 4, none⟩ v4).setCell ⟨b, 5, none⟩ v5).setCell ⟨b, 6, none⟩ v6).setCell ⟨b, 7, none⟩ v7).setCell ⟨b, 8, none⟩ v8).setCell ⟨b, 9, none⟩ v9).setCell ⟨b, 10, none⟩ v10).setCell ⟨b, 11, none⟩ v11).setCell ⟨b, 12, none⟩ v12).setCell ⟨b, 13, none⟩ v13).setCell ⟨b, 14, none⟩ v14).setCell ⟨b, 15, none⟩ v15).output = W.output ∧ ((((((((((((((((W.setCell ⟨b, 0, none⟩ v0).setCell ⟨b, 1, none⟩ v1).setCell ⟨b, 2, none⟩ v2).setCell ⟨b, 3, none⟩ v3).setCell ⟨b, 4, none⟩ v4).setCell ⟨b, 5, none⟩ v5).setCell ⟨b, 6, none⟩ v6).setCell ⟨b, 7, none⟩ v7).setCell ⟨b, 8, none⟩ v8).setCell ⟨b, 9, none⟩ v9).setCell ⟨b, 10, none⟩ v10).setCell ⟨b, 11, none⟩ v11).setCell ⟨b, 12, none⟩ v12).setCell ⟨b, 13, none⟩ v13).setCell ⟨b, 14, none⟩ v14).setCell ⟨b, 15, none⟩ v15).heap.size = W.heap.size ∧ (∀ k, k ≠ b → ((((((((((((((((W.setCell ⟨b, 0, none⟩ v0).setCell ⟨b, 1, none⟩ v1).setCell ⟨b, 2, none⟩ v2).setCell ⟨b, 3, none⟩ v3).setCell ⟨b, 4, none⟩ v4).setCell ⟨b, 5, none⟩ v5).setCell ⟨b, 6, none⟩ v6).setCell ⟨b, 7, none⟩ v7).setCell ⟨b, 8, none⟩ v8).setCell ⟨b, 9, none⟩ v9).setCell ⟨b, 10, none⟩ v10).setCell ⟨b, 11, none⟩ v11).setCell ⟨b, 12, none⟩ v12).setCell ⟨b, 13, none⟩ v13).setCell ⟨b, 14, none⟩ v14).setCell ⟨b, 15, none⟩ v15).heap[k]? = W.heap[k]?) := by
  have q := (set1 (set1 (set1 (set1 (set1 (set1 (set1 (set1 (set1 (set1 (set1 (set1 (set1 (set1 (set1 (set1 (W0 := W) (W := W) (b := b) ⟨rfl, rfl, rfl, rfl, fun _ _ => rfl⟩ 0 v0) 1 v1) 2 v2) 3 v3) 4 v4) 5 v5) 6 v6) 7 v7) 8 v8) 9 v9) 10 v10) 11 v11) 12 v12) 13 v13) 14 v14) 15 v15)
  exact q
theorem ownsRow_lo {w : World} {base base' : Nat} {e : TypeId} {size : Nat} {v : Value} {n : Nat} {xs : List Value} (h : w.ownsRow base e size v n xs) (hb : base' ≤ base) : w.ownsRow base' e size v n xs := by
  refine ⟨h.1, ?_⟩
  rcases h.2 with h2 | ⟨g, cap, cur, h1, h3, h4⟩
  · exact .inl h2
  · exact .inr ⟨g, cap, cur, h1, Nat.le_trans hb h3, h4⟩
theorem ownsRow_obj {w : World} {base : Nat} {e : TypeId} {size : Nat} {v : Value} {n : Nat} {xs : List Value} (h : w.ownsRow base e size v n xs) (g : Nat) (hg : v.ownBlock = some g) : ∃ cur, w.heap[g]? = some (.cells cur e (0, 0)) := by
  rcases h.2 with ⟨rfl, _⟩ | ⟨g', cap, cur, rfl, _, h4, _⟩
  · simp [Value.ownBlock] at hg
  · simp [Value.ownBlock] at hg
    subst hg
    exact ⟨cur, h4⟩
/-- A map of places, all of it at z or beyond, its lists in rows of their own type. -/
structure MapTy (z : Nat) (W : World) (m : Nat) (D : Int → Int → List Int) : Prop where
  lo : z ≤ m
  ex : ∃ M, MapAt W m M ∧ ∀ h s, W.ownsRow z 3 1 (lookV h s M) (D h s).length ((D h s).map i64)
theorem MapTy.keep {z : Nat} {W W' : World} {m : Nat} {D : Int → Int → List Int} (h : MapTy z W m D) (hk : ∀ k o, z ≤ k → W.heap[k]? = some o → ((∃ es c, o = .map es c) ∨ ∃ cur, o = .cells cur 3 (0, 0)) → W'.heap[k]? = some o) : MapTy z W' m D := by
  obtain ⟨h1, M, h2, h3⟩ := h
  refine ⟨h1, M, hk m _ h1 h2 (.inl ⟨_, _, rfl⟩), fun a b => ownsRow_of (h3 a b) (fun g hg => ?_)⟩
  obtain ⟨cur, hc⟩ := ownsRow_obj (h3 a b) g hg
  rw [hc, hk g _ ((h3 a b).lt g hg).1 hc (.inr ⟨cur, rfl⟩)]
theorem MapTy.below {z : Nat} {W W' : World} {m : Nat} {D : Int → Int → List Int} (h : MapTy z W m D) (hb : Below W.heap.size W W') : MapTy z W' m D :=
  h.keep fun k _ _ hk _ => (hb.block k (Array.getElem?_eq_some_iff.1 hk).1).trans hk
theorem MapTy.down {z z' : Nat} {W : World} {m : Nat} {D : Int → Int → List Int} (h : MapTy z W m D) (hz : z' ≤ z) : MapTy z' W m D := by
  obtain ⟨h1, M, h2, h3⟩ := h
  exact ⟨Nat.le_trans hz h1, M, h2, fun a b => ownsRow_lo (h3 a b) hz⟩
theorem MapTy.mapIn {z : Nat} {W : World} {m : Nat} {D : Int → Int → List Int} (h : MapTy z W m D) (hl : ∀ a b, (D a b).length ≤ 1000) : MapIn W.heap.size W m D := by
  obtain ⟨h1, M, h2, h3⟩ := h
  refine ⟨(Array.getElem?_eq_some_iff.1 h2).1, M, h2, fun a b => ?_⟩
  obtain ⟨x, o, p, c, e, hi, hx⟩ := ints_of_row (h3 a b) (hl a b)
  exact ⟨x, o, p, c, e, hi⟩
theorem MapOwn.ty {base m z : Nat} {W : World} {M : List PE} {D : Int → Int → List Int} (h : MapOwn base m W M D) (hm : z ≤ m) (hb : z ≤ base) : MapTy z W m D := ⟨hm, M, h.at_, fun a b => ownsRow_lo (h.row a b) hb⟩
/-- What opened hands back: the map and the list of bottoms, in memory of its own. -/
def OpenPost (B : Book) (ta : Option Addr) (tc : Nat) (sa : Option Addr) (sc : Nat) (but : List Int) (w : World) (e : Ending) (w' : World) : Prop :=
  ∃ m ca cc, e = .returned (calcVal B ta tc sa sc m (.slice ca (ext0 B (dep B.sounds but)).length cc)) ∧ Below w.heap.size w w' ∧ MapTy w.heap.size w' m (dep B.sounds but) ∧ w'.ownsRow w.heap.size 99 2 (.slice ca (ext0 B (dep B.sounds but)).length cc) (ext0 B (dep B.sounds but)).length (flatC (ext0 B (dep B.sounds but)))
set_option maxRecDepth 100000 in
set_option maxHeartbeats 2000000 in
theorem opened_any (nA : Nat) (B : Book) (tb tq : Nat) (ta : Option Addr) (tc : Nat) (sb sq : Nat) (sa : Option Addr) (sc : Nat) (ub uo : Nat) (ua : Option Addr) (uc : Nat) (but : List Int) (w : World)
    (hV : VB B) (hn : nA ≤ w.heap.size) (hG : GL nA w) (hT : SpansAt nA w tb tq ta B.tides) (hS : SoundsAt nA w sb sq sa B.sounds) (hU : IntsAt nA w ub uo ua but) :
    Calls Tryd.prog 70 #[bookVal B ta tc sa sc, .slice ua but.length uc] w (OpenPost B ta tc sa sc but w) := by
  have hlen := hS.len
  have hmk := run_makeMap90
  go_enter Tryd.func70, Tryd.ntmps70
  go_wp2_with fail
  clear hmk
  have hOL : OL w.heap.size B ta tc sa sc (depK B.sounds but 0) w ((((w.alloc (.cells (bookCells B ta tc sa sc) 30)).alloc (.cells zero93 93)).alloc (.map #[] 0)).alloc (.cells (calcCells B ta tc sa sc (w.heap.size + 1 + 1) (.slice none 0 0)) 93)) := by
    obtain ⟨p1, p2, p3, p4, p5, p6⟩ := alloc4 w (.cells (bookCells B ta tc sa sc) 30) (.cells zero93 93) (.map #[] 0) (.cells (calcCells B ta tc sa sc (w.heap.size + 1 + 1) (.slice none 0 0)) 93)
    exact ⟨p1, p3, p4, p6, [], p5, by omega, fun h s => World.ownsRow_nil _ _ _ _, fun h s h' s' g e => by simp [lookV, findP, Value.ownBlock] at e⟩
  go_loopw [16] (fun i wr => ∃ k : Nat, k ≤ B.sounds.length ∧ i = .int .i64 k ∧ OL w.heap.size B ta tc sa sc (depK B.sounds but k) w wr) (fun i _ => B.sounds.length - (intOf i).toNat)
  case atStart => exact ⟨0, Nat.zero_le _, rfl, hOL⟩
  case round =>
    clear hOL
    obtain ⟨k, hk, rfl, hO⟩ := hrel
    by_cases hlt : k < B.sounds.length
    · have hS1 := hS.same ((Same.of_below hO.below).mono hn)
      have hU1 := hU.same ((Same.of_below hO.below).mono hn)
      have hG1 := hG.same ((Same.of_below hO.below).mono hn)
      have hidx := idx28 (n := B.sounds.length) (c := sc) (k := k) wr (hS1.at_ (ne_nil_of_lt hlt)) hlt
      have hc0 := hS1.hour k hlt
      have hc1 := hS1.shore k hlt
      have hc2 := hS1.deep k hlt
      have hn0 := hG1.now0
      have hn1 := hG1.now1
      have hz := hO.lt
      have h1l : 1 < wr.heap.size := by have := hG.n3; omega
      have h0l : 0 < wr.heap.size := by omega
      have hsn := hV.shour _ (List.getElem_mem hlt)
      have heq : ∀ W : World, (Op.equalIn 10000 107 (.agg #[i64 B.sounds[k].hour, i64 B.sounds[k].shore]) (.agg #[i64 (-1), i64 (-1)])).run Tryd.prog W = .ok false W := fun W => by
        have h := eq_place B.sounds[k].hour B.sounds[k].shore (-1) (-1) W
        rwa [show (B.sounds[k].hour == -1 && B.sounds[k].shore == -1) = false by simp; omega] at h
      have hbw : Below wr.heap.size wr ((wr.alloc (.cells #[i64 B.sounds[k].hour, i64 B.sounds[k].shore, i64 B.sounds[k].deep] 70)).alloc (.cells #[i64 B.sounds[k].hour, i64 B.sounds[k].shore] 107)) := ((Below.refl _ wr).alloc (Nat.le_refl _) _).alloc (by simp) _
      cases hcb : but.contains (k : Int)
      · have hcb := Lib.hid hcb
        go_upto_region 7 with (go_at_call 94; refine (contains_any nA ub uo ua uc but _ _ (hU1.same ((Same.of_below hbw).mono (by omega)))).mono ?_; rintro e w' ⟨rfl, rfl⟩; rw [hcb.out])
        have h70 : ((wr.alloc (.cells #[i64 B.sounds[k].hour, i64 B.sounds[k].shore, i64 B.sounds[k].deep] 70)).alloc (.cells #[i64 B.sounds[k].hour, i64 B.sounds[k].shore] 107)).heap[wr.heap.size]? = some (.cells #[i64 B.sounds[k].hour, i64 B.sounds[k].shore, i64 B.sounds[k].deep] 70 (0, 0)) := (Below.heap_alloc _ _ _ (by simp)).trans (heap_alloc_new wr _)
        have h71 : ((wr.alloc (.cells #[i64 B.sounds[k].hour, i64 B.sounds[k].shore, i64 B.sounds[k].deep] 70)).alloc (.cells #[i64 B.sounds[k].hour, i64 B.sounds[k].shore] 107)).heap[wr.heap.size + 1]? = some (.cells #[i64 B.sounds[k].hour, i64 B.sounds[k].shore] 107 (0, 0)) := heap_alloc2_new wr _ _
        refine abs_world (fun W => Below wr.heap.size wr W ∧ W.heap[wr.heap.size]? = some (.cells #[i64 B.sounds[k].hour, i64 B.sounds[k].shore, i64 B.sounds[k].deep] 70 (0, 0)) ∧ W.heap[wr.heap.size + 1]? = some (.cells #[i64 B.sounds[k].hour, i64 B.sounds[k].shore] 107 (0, 0))) ⟨hbw, h70, h71⟩ ?_
        clear hbw h70 h71 hidx hc0 hc1 hc2 hn0 hn1 heq
        rintro W ⟨hb7, h7, h8⟩
        have hO7 := hO.more hb7
        have hD : ∀ h' s', depK B.sounds but (k + 1) h' s' = if h' == B.sounds[k].hour && s' == B.sounds[k].shore then depK B.sounds but k B.sounds[k].hour B.sounds[k].shore ++ [B.sounds[k].deep] else depK B.sounds but k h' s' := fun h' s' => by
          rw [depK_succ _ _ _ _ _ hlt, hcb.out]
          by_cases hc : (h' == B.sounds[k].hour && s' == B.sounds[k].shore) = true
          · have hc' := hc
            simp at hc'
            rw [if_pos hc, hc'.1, hc'.2]
            simp
          · rw [if_neg hc]
            have : (B.sounds[k].hour == h' && B.sounds[k].shore == s' && !false) = false := by
              cases hx : (B.sounds[k].hour == h' && B.sounds[k].shore == s' && !false)
              · rfl
              · simp at hx hc
                exact absurd hx.2.symm (hc hx.1.symm)
            rw [this]
            simp
        have hD := Lib.hid hD
        obtain ⟨M, hM⟩ := hO7.map
        have hM1 := hM.below ((Below.refl _ W).alloc (Nat.le_refl _) (.cells #[i64 B.sounds[k].deep] 3))
        have hme := run_mapEntry90 hM1.at_ B.sounds[k].hour B.sounds[k].shore
        have hM2 := hM1.enter B.sounds[k].hour B.sounds[k].shore
        have hrow := hM2.row B.sounds[k].hour B.sounds[k].shore
        rw [lookV_entered] at hrow
        have hnews : ∀ j u, [i64 B.sounds[k].deep][j]? = some u → ((W.alloc (.cells #[i64 B.sounds[k].deep] 3)).putObj (w.heap.size + 1 + 1) (.map (ents (entered B.sounds[k].hour B.sounds[k].shore M)).toArray (entered B.sounds[k].hour B.sounds[k].shore M).length)).cell? ((⟨W.heap.size, 0, none⟩ : Addr).add j) = some u := fun j u hj => by
          cases j with
          | succ j => simp at hj
          | zero =>
            refine (World.cell?_of_block (w := W.alloc (.cells #[i64 B.sounds[k].deep] 3)) (World.putObj_heap_other ?_)).trans (cell_one_new W _ 3 0 u hj)
            show W.heap.size ≠ w.heap.size + 1 + 1
            have := hO7.lt
            omega
        have hlenD := depK_len B.sounds but k B.sounds[k].hour B.sounds[k].shore
        have hs6 := hV.s6
        have hO7l := hO7.lt
        have hy7 := cells_of h7
        have hy8 := cells_of h8
        have hyb := cells_of hO7.b
        have l7 := (Array.getElem?_eq_some_iff.1 h7).1
        have l8 := (Array.getElem?_eq_some_iff.1 h8).1
        have lb := (Array.getElem?_eq_some_iff.1 hO7.b).1
        obtain ⟨i0, hi, hz0, hz1, hz2⟩ := info_parts info3
        go_wp2_with (at_builtin; (refine wpList_append_own_at _ rfl _ _ 40 rfl (w.heap.size + 1 + 1 + 1 + 1) 3 i0 (i64 0) 1 8 Tryd.underlying40 hi hz0 hz1 hz2 rfl (by decide) (lookV B.sounds[k].hour B.sounds[k].shore M) _ _ rfl hrow ⟨W.heap.size, 0, none⟩ 1 1 [i64 B.sounds[k].deep] rfl rfl hnews (by simp [Value.oneCell']) (by unfold maxLen; omega) (by omega) (by simp; omega) ?_); intro v' w1 hown' hgrow hnil hloc; go_loud (have hst := hM2.store hown' hgrow hloc hD.out); go_loud (have hes := run_entryStore90 B.sounds[k].hour B.sounds[k].shore hst.1 v'))
        have hkeep : ∀ i, i < w.heap.size + 1 + 1 + 1 + 1 → i ≠ w.heap.size + 1 + 1 → ∀ o, (w1.putObj (w.heap.size + 1 + 1) o).heap[i]? = W.heap[i]? := fun i h1 h2 o => by
          rw [World.putObj_heap_other (by omega), hgrow.block i (by simp; omega) (fun e => by have := (hrow.lt i e.symm).1; omega), World.putObj_heap_other (by omega), Below.heap_alloc _ _ _ (by omega)]
        have hO8 : OL w.heap.size B ta tc sa sc (depK B.sounds but (k + 1)) w (w1.putObj (w.heap.size + 1 + 1) (.map (ents (stored B.sounds[k].hour B.sounds[k].shore v' M)).toArray (stored B.sounds[k].hour B.sounds[k].shore v' M).length)) := by
          refine ⟨⟨hgrow.os.trans hO7.below.os, hgrow.tape.trans hO7.below.tape, hgrow.output.trans hO7.below.output, ?_, fun i hi => (hkeep i (by omega) (by omega) _).trans (hO7.below.block i hi)⟩, (hkeep _ (by omega) (by omega) _).trans hO7.x, (hkeep _ (by omega) (by omega) _).trans hO7.r, (hkeep _ (by omega) (by omega) _).trans hO7.b, _, hst.2⟩
          have h1 := hgrow.size
          have h2 := hO7.below.size
          simp at h1 ⊢
          omega
        go_roundw
        case rel => exact ⟨k + 1, by omega, by go_num, hO8⟩
        case measure => simp [intOf]; omega
      · have hcb := Lib.hid hcb
        have hO8 : OL w.heap.size B ta tc sa sc (depK B.sounds but (k + 1)) w ((wr.alloc (.cells #[i64 B.sounds[k].hour, i64 B.sounds[k].shore, i64 B.sounds[k].deep] 70)).alloc (.cells #[i64 B.sounds[k].hour, i64 B.sounds[k].shore] 107)) := by
          have : depK B.sounds but (k + 1) = depK B.sounds but k := by
            funext h s
            rw [depK_succ _ _ _ _ _ hlt, hcb.out]
            simp
          rw [this]
          exact hO.more hbw
        go_wp2_with (go_at_call 94; refine (contains_any nA ub uo ua uc but _ _ (hU1.same ((Same.of_below hbw).mono (by omega)))).mono ?_; rintro e w' ⟨rfl, rfl⟩; rw [hcb.out])
        go_roundw
        case rel => exact ⟨k + 1, by omega, by go_num, hO8⟩
        case measure => simp [intOf]; omega
    · have hke : k = B.sounds.length := by omega
      have hO9 : OL w.heap.size B ta tc sa sc (dep B.sounds but) w wr := by rw [hke] at hO; exact hO
      have hk' : ¬ (k : Int) < (B.sounds.length : Int) := by omega
      clear hke hO
      have hz := hO9.lt
      have hG1 := hG.same ((Same.of_below hO9.below).mono hn)
      have hn0 := hG1.unk0
      have hn1 := hG1.unk1
      have hul : 2 < wr.heap.size := by have := hG.n3; omega
      have hul1 : 1 < wr.heap.size := by omega
      have hne : wr.heap.size ≠ w.heap.size + 1 + 1 + 1 := by omega
      obtain ⟨M, hM⟩ := hO9.map
      have hbw : Below wr.heap.size wr (wr.alloc (.cells #[.func (.func 95) #[] #[.pointer (some ⟨w.heap.size, 0, none⟩), .pointer (some ⟨wr.heap.size, 0, none⟩), .pointer (some ⟨w.heap.size + 1 + 1 + 1, 0, none⟩)]] 120)) := (Below.refl _ wr).alloc (Nat.le_refl _) _
      have hOA := hO9.more hbw
      have hMA := hM.below hbw
      have hG2 := hG.same ((Same.of_below hOA.below).mono hn)
      have hdl : ∀ a b, (dep B.sounds but a b).length ≤ 1000 := fun a b => by have := depK_len B.sounds but B.sounds.length a b; have := hV.s6; unfold dep; omega
      have hP : Op0 nA (wr.alloc (.cells #[.func (.func 95) #[] #[.pointer (some ⟨w.heap.size, 0, none⟩), .pointer (some ⟨wr.heap.size, 0, none⟩), .pointer (some ⟨w.heap.size + 1 + 1 + 1, 0, none⟩)]] 120)).heap.size w.heap.size wr.heap.size (w.heap.size + 1 + 1 + 1) B tb tq ta tc sa sc (w.heap.size + 1 + 1) (dep B.sounds but)
          (wr.alloc (.cells #[.func (.func 95) #[] #[.pointer (some ⟨w.heap.size, 0, none⟩), .pointer (some ⟨wr.heap.size, 0, none⟩), .pointer (some ⟨w.heap.size + 1 + 1 + 1, 0, none⟩)]] 120)) :=
        ⟨hG.n3, by omega, by simp; omega, ⟨by simp; omega, by omega⟩, ⟨by simp, by omega⟩, Nat.le_refl _, hG2.unk0, hG2.unk1, hOA.x, heap_alloc_new wr _, hT.same ((Same.of_below hOA.below).mono hn), hMA.fix (by omega) (by omega) hdl⟩
      have hBB : BB (wr.alloc (.cells #[.func (.func 95) #[] #[.pointer (some ⟨w.heap.size, 0, none⟩), .pointer (some ⟨wr.heap.size, 0, none⟩), .pointer (some ⟨w.heap.size + 1 + 1 + 1, 0, none⟩)]] 120)).heap.size (w.heap.size + 1 + 1 + 1) B ta tc sa sc (w.heap.size + 1 + 1) [] (.slice none 0 0)
          (wr.alloc (.cells #[.func (.func 95) #[] #[.pointer (some ⟨w.heap.size, 0, none⟩), .pointer (some ⟨wr.heap.size, 0, none⟩), .pointer (some ⟨w.heap.size + 1 + 1 + 1, 0, none⟩)]] 120)) := ⟨hOA.b, World.ownsRow_nil _ _ _ _⟩
      have hel : (ext0 B (dep B.sounds but)).length ≤ 1000 := by
        have := preC0_len B (dep B.sounds but) (B.s0.fh - B.s0.fl + 1).toNat hV.sh1
        have := hV.sh0.near
        unfold ext0
        omega
      go_wp2_with (go_at_call 95; refine (from0 nA _ w.heap.size wr.heap.size (w.heap.size + 1 + 1 + 1) B tb tq ta tc sa sc (w.heap.size + 1 + 1) (dep B.sounds but) (-41) (-41) [] (.slice none 0 0) _ hP hBB hV.hour (by simp) hV.sh1 hV.sh0).mono ?_; rintro e w' ⟨rfl, cv, hB2, hS2⟩; rw [List.nil_append] at hB2; obtain ⟨cb, ca, cc, rfl, _, _⟩ := cans_of_row hB2.own hel; have hbc := cells_of hB2.box; have hbl := (Array.getElem?_eq_some_iff.1 hB2.box).1; have hr2 := (hS2.keep (w.heap.size + 1) (by simp; omega) (by omega) (by simp [Value.ownBlock])).trans hOA.r; have hrc := cells_of hr2; have hrf := frozen_of hr2; have hrl := (Array.getElem?_eq_some_iff.1 hr2).1)
      have hbf : Below w.heap.size w w' := by
        refine ⟨hS2.os.trans hOA.below.os, hS2.tape.trans hOA.below.tape, hS2.output.trans hOA.below.output, Nat.le_trans hOA.below.size hS2.size, fun i hi => ?_⟩
        exact (hS2.keep i (by simp; omega) (by omega) (by simp [Value.ownBlock])).trans (hOA.below.block i hi)
      have hM3 : MapOwn (w.heap.size + 1 + 1 + 1 + 1) (w.heap.size + 1 + 1) w' M (dep B.sounds but) :=
        hMA.of_heap (hS2.keep _ (by simp; omega) (by omega) (by simp [Value.ownBlock])) (fun g h1 h2 => hS2.keep g h2 (by omega) (by simp [Value.ownBlock]))
      refine abs_post (fun W => W.os = w'.os ∧ W.tape = w'.tape ∧ W.output = w'.output ∧ W.heap.size = w'.heap.size ∧ (∀ k, k ≠ w.heap.size + 1 → W.heap[k]? = w'.heap[k]?) ∧ W.heap[w.heap.size + 1]? = some (.cells (calcCells B ta tc sa sc (w.heap.size + 1 + 1) (.slice ca (ext0 B (dep B.sounds but)).length cc)) 93 (0, 0)))
        ?_ ?_
      · obtain ⟨r1, r2, r3, r4, r5⟩ := keep16 (W := w') (b := w.heap.size + 1) (.slice ta B.tides.length tc) (i64 B.s0.fl) (i64 B.s0.fh) (i64 B.s0.lo) (i64 B.s0.hi) (i64 B.s1.fl) (i64 B.s1.fh) (i64 B.s1.lo) (i64 B.s1.hi) (i64 B.el) (i64 B.eh) (i64 B.sink) (i64 B.under) (.slice sa B.sounds.length sc) (.map (some (w.heap.size + 1 + 1))) (.slice ca (ext0 B (dep B.sounds but)).length cc)
        have r6 := set16 hr2 (.slice ta B.tides.length tc) (i64 B.s0.fl) (i64 B.s0.fh) (i64 B.s0.lo) (i64 B.s0.hi) (i64 B.s1.fl) (i64 B.s1.fh) (i64 B.s1.lo) (i64 B.s1.hi) (i64 B.el) (i64 B.eh) (i64 B.sink) (i64 B.under) (.slice sa B.sounds.length sc) (.map (some (w.heap.size + 1 + 1))) (.slice ca (ext0 B (dep B.sounds but)).length cc)
        exact ⟨r1, r2, r3, r4, r5, r6⟩
      rintro W ⟨o1, o2, o3, o4, o5, o6⟩
      have hwc := cells_of o6
      have hwl := (Array.getElem?_eq_some_iff.1 o6).1
      have hM4 : MapOwn (w.heap.size + 1 + 1 + 1 + 1) (w.heap.size + 1 + 1) W M (dep B.sounds but) := hM3.of_heap (o5 _ (by omega)) (fun g h1 h2 => o5 g (by omega))
      refine bodyPost_ret (v := calcVal B ta tc sa sc (w.heap.size + 1 + 1) (.slice ca (ext0 B (dep B.sounds but)).length cc)) (by simp [results, Tryd.f70, go_sem, hwc]) rfl ?_
      refine ⟨_, ca, cc, rfl, ⟨o1.trans hbf.os, o2.trans hbf.tape, o3.trans hbf.output, by rw [o4]; exact hbf.size, fun i hi => (o5 i (by omega)).trans (hbf.block i hi)⟩, hM4.ty (by omega) (by omega), ?_⟩
      refine ownsRow_lo (ownsRow_of hB2.own (fun g hg => o5 g ?_)) (by simp; omega)
      have := (hB2.own.lt g hg).1
      simp at this
      omega
end Go.Proofs.YtkbmpkdflgimmaaDoor
/- Loads and stores of a whole book, and of a whole book in the calculation, as one step. -/
namespace Go.Proofs.YtkbmpkdflgimmaaDoor
open Go.RowKit Go.Shelf

theorem size93 : (Tryd.prog.info? 93).map (·.size) = some 16 := by kernel_rfl
theorem size30 : (Tryd.prog.info? 30).map (·.size) = some 14 := by kernel_rfl
section
variable {ops : Array Oper} {rest : List Oper} {o : Oper} {a : Act} {w : World} {Q : Exit → Act → World → Prop}
theorem ld93 (hgd : o.guard = none) (x : Operand) (ho : o.op = .load 93 x) (g : Nat) (cs : Array Value) (hx : a.eval x = .pointer (some ⟨g, 0, none⟩)) (hg : w.heap[g]? = some (.cells cs 93 (0, 0))) (hs : cs.size = 16)
    (h : wpList Tryd.prog ops Q rest (a.put o.dst (.agg cs)) w) : wpList Tryd.prog ops Q (o :: rest) a w :=
  wpList_load_row hgd 93 x ho g hx 93 cs (0, 0) _ hg Tryd.underlying93 rfl (by rw [size93, hs]) h
theorem ld30 (hgd : o.guard = none) (x : Operand) (ho : o.op = .load 30 x) (g : Nat) (cs : Array Value) (hx : a.eval x = .pointer (some ⟨g, 0, none⟩)) (hg : w.heap[g]? = some (.cells cs 30 (0, 0))) (hs : cs.size = 14)
    (h : wpList Tryd.prog ops Q rest (a.put o.dst (.agg cs)) w) : wpList Tryd.prog ops Q (o :: rest) a w :=
  wpList_load_row hgd 30 x ho g hx 30 cs (0, 0) _ hg Tryd.underlying30 rfl (by rw [size30, hs]) h
theorem st93 (hgd : o.guard = none) (x y : Operand) (ho : o.op = .store 93 x y) (g : Nat) (cs old : Array Value) (hx : a.eval x = .pointer (some ⟨g, 0, none⟩)) (hy : a.eval y = .agg cs) (hg : w.heap[g]? = some (.cells old 93 (0, 0))) (hs : cs.size = 16) (ho' : old.size = 16) (h1 : cs.all (·.oneCell') = true)
    (h : wpList Tryd.prog ops Q rest (a.put o.dst undef) (w.setRow g cs)) : wpList Tryd.prog ops Q (o :: rest) a w :=
  wpList_store_row hgd 93 x y ho g cs hx hy 93 old hg (by rw [size93, hs]) (by rw [hs, ho']) h1 h
theorem st30 (hgd : o.guard = none) (x y : Operand) (ho : o.op = .store 30 x y) (g : Nat) (cs old : Array Value) (hx : a.eval x = .pointer (some ⟨g, 0, none⟩)) (hy : a.eval y = .agg cs) (hg : w.heap[g]? = some (.cells old 30 (0, 0))) (hs : cs.size = 14) (ho' : old.size = 14) (h1 : cs.all (·.oneCell') = true)
    (h : wpList Tryd.prog ops Q rest (a.put o.dst undef) (w.setRow g cs)) : wpList Tryd.prog ops Q (o :: rest) a w :=
  wpList_store_row hgd 30 x y ho g cs hx hy 30 old hg (by rw [size30, hs]) (by rw [hs, ho']) h1 h
end
theorem results_cell_tmp {P : Program} {fn : Func} {p q : Tmp} {ty : TypeId} (h : fn.results = #[.cell p ty, .tmp q]) (tmps : Array Value) (w : World) (g : Nat) (t : TypeId) (cs : Array Value) (fr : Nat × Nat) (d : TypeDesc)
    (hp : tmps.getD p undef = .pointer (some ⟨g, 0, none⟩)) (hg : w.heap[g]? = some (.cells cs t fr))
    (hu : P.underlying ty = some d) (hd : (match d with | .struct _ | .array _ _ => true | _ => false) = true) (hi : (P.info? ty).map (·.size) = some cs.size) :
    (results fn tmps).run P w = .ok (.tuple #[.agg cs, tmps.getD q undef]) w := by
  have hp' : tmps[p]?.getD undef = .pointer (some ⟨g, 0, none⟩) := by simpa using hp
  simp [results, h, hp', asAddr, run_loadVar_row w g t ty cs fr d hg hu hd hi]
/-- One block has been set; the rest is as it was. -/
structure SetAt (b : Nat) (W W' : World) : Prop where
  os : W'.os = W.os
  tape : W'.tape = W.tape
  output : W'.output = W.output
  size : W'.heap.size = W.heap.size
  other : ∀ k, k ≠ b → W'.heap[k]? = W.heap[k]?
theorem SetAt.row (W : World) (b : Nat) (cs : Array Value) : SetAt b W (W.setRow b cs) := ⟨rfl, rfl, rfl, by simp, fun k hk => setRow_other W b k cs hk⟩
theorem SetAt.below {b n : Nat} {w W W' : World} (h : SetAt b W W') (hn : n ≤ b) (hb : Below n w W) : Below n w W' :=
  ⟨h.os.trans hb.os, h.tape.trans hb.tape, h.output.trans hb.output, by rw [h.size]; exact hb.size, fun i hi => (h.other i (by omega)).trans (hb.block i hi)⟩
end Go.Proofs.YtkbmpkdflgimmaaDoor
/- The contract of asked. -/
namespace Go.Proofs.YtkbmpkdflgimmaaDoor
open Go.RowKit Go.Shelf

theorem spanOk_spec {s : Span} (h : spanOk s = true) : -40 ≤ s.lo ∧ s.lo ≤ s.hi ∧ s.hi ≤ 80 ∧ s.hi - s.lo ≤ 4 := by
  simp [spanOk, spanB] at h; omega
theorem VB.of_valid {B : Book} (h : B.valid = true) : VB B := by
  simp [Book.valid, hdrB, inB, spanB, shoreOk, List.all_eq_true] at h
  obtain ⟨⟨⟨⟨⟨⟨a1, a2⟩, ⟨b1, b2, b3, b4⟩, ⟨c1, c2⟩, ⟨d1, d2⟩, e⟩, ht⟩, ⟨⟨f1, f2, f3, f4⟩, ⟨g1, g2⟩⟩⟩, ⟨⟨i1, i2, i3, i4⟩, ⟨j1, j2⟩⟩⟩, hs⟩ := h
  refine ⟨by omega, by omega, fun k hk => ?_, ⟨by omega, by omega, by omega, by omega, by omega, by omega, by omega⟩, ⟨by omega, by omega, by omega, by omega⟩, ⟨by omega, by omega, by omega, by omega⟩, by omega, fun y hy => ?_⟩
  · have := spanOk_spec (ht _ (List.getElem_mem hk))
    exact ⟨hk, by omega, by omega, by omega⟩
  · have := hs y hy
    simp [soundOk, inB] at this
    omega
/-- What asked answers. -/
def askE (B : Book) (is : Bool) : Int := if B.valid then (if is then (if (ext0 B (dep B.sounds [])).isEmpty then 22 else 0) else 21) else 20
/-- All that the bottom can be at both shores. -/
def cansB (B : Book) : List (Int × Int) := ext0 B (dep B.sounds [])
/-- What lies behind the calculation's value, at z or beyond. -/
def AskFacts (z : Nat) (B : Book) (ta : Option Addr) (tc : Nat) (sa : Option Addr) (sc : Nat) (W : World) (cs : Array Value) : Prop :=
  ∃ m ca cc, cs = calcCells B ta tc sa sc m (.slice ca (cansB B).length cc) ∧ MapTy z W m (dep B.sounds []) ∧ W.ownsRow z 99 2 (.slice ca (cansB B).length cc) (cansB B).length (flatC (cansB B))
theorem AskFacts.keep {z : Nat} {B : Book} {ta : Option Addr} {tc : Nat} {sa : Option Addr} {sc : Nat} {W W' : World} {cs : Array Value} (h : AskFacts z B ta tc sa sc W cs)
    (hk : ∀ k o, z ≤ k → W.heap[k]? = some o → ((∃ es c, o = .map es c) ∨ (∃ cur, o = .cells cur 3 (0, 0)) ∨ ∃ cur, o = .cells cur 99 (0, 0)) → W'.heap[k]? = some o) : AskFacts z B ta tc sa sc W' cs := by
  obtain ⟨m, ca, cc, h1, h2, h3⟩ := h
  refine ⟨m, ca, cc, h1, h2.keep (fun k o hz ho hx => hk k o hz ho (by rcases hx with h | h; exact .inl h; exact .inr (.inl h))), ownsRow_of h3 (fun g hg => ?_)⟩
  obtain ⟨cur, hc⟩ := ownsRow_obj h3 g hg
  rw [hc, hk g _ (h3.lt g hg).1 hc (.inr (.inr ⟨cur, rfl⟩))]
theorem AskFacts.below {z : Nat} {B : Book} {ta : Option Addr} {tc : Nat} {sa : Option Addr} {sc : Nat} {W W' : World} {cs : Array Value} (h : AskFacts z B ta tc sa sc W cs) (hb : Below W.heap.size W W') : AskFacts z B ta tc sa sc W' cs :=
  h.keep fun k _ _ hk _ => (hb.block k (Array.getElem?_eq_some_iff.1 hk).1).trans hk
theorem AskFacts.down {z z' : Nat} {B : Book} {ta : Option Addr} {tc : Nat} {sa : Option Addr} {sc : Nat} {W : World} {cs : Array Value} (h : AskFacts z B ta tc sa sc W cs) (hz : z' ≤ z) : AskFacts z' B ta tc sa sc W cs := by
  obtain ⟨m, ca, cc, h1, h2, h3⟩ := h
  exact ⟨m, ca, cc, h1, h2.down hz, ownsRow_lo h3 hz⟩
structure AskCs (z : Nat) (B : Book) (ta : Option Addr) (tc : Nat) (sa : Option Addr) (sc : Nat) (err : Int) (W : World) (cs : Array Value) : Prop where
  size : cs.size = 16
  one : cs.all (·.oneCell') = true
  facts : err = 0 → AskFacts z B ta tc sa sc W cs
def AskPost (B : Book) (ta : Option Addr) (tc : Nat) (sa : Option Addr) (sc : Nat) (is : Bool) (w : World) (e : Ending) (w' : World) : Prop :=
  ∃ cs : Array Value, e = .returned (.tuple #[.agg cs, i64 (askE B is)]) ∧ Below w.heap.size w w' ∧ AskCs w.heap.size B ta tc sa sc (askE B is) w' cs
theorem nilInts (n : Nat) (W : World) : IntsAt n W 0 0 none [] := ⟨by simp, fun h => absurd rfl h, fun h => absurd rfl h, fun k h => by simp at h⟩
set_option maxRecDepth 100000 in
set_option maxHeartbeats 2000000 in
theorem asked_bad (nA : Nat) (B : Book) (tb tq : Nat) (ta : Option Addr) (tc : Nat) (sb sq : Nat) (sa : Option Addr) (sc : Nat) (is : Bool) (w : World)
    (hn : nA ≤ w.heap.size) (_hG : GL nA w) (hT : SpansAt nA w tb tq ta B.tides) (hS : SoundsAt nA w sb sq sa B.sounds) (hC : Hid (checkE B = 20)) (hE : Hid (askE B is = 20)) :
    Calls Tryd.prog 72 #[bookVal B ta tc sa sc, .bool is] w (AskPost B ta tc sa sc is w) := by
  have hb0 : Below w.heap.size w ((w.alloc (.cells (bookCells B ta tc sa sc) 30)).alloc (.cells zero93 93)) := ((Below.refl _ w).alloc (Nat.le_refl _) _).alloc (by simp) _
  have hT0 := hT.same ((Same.of_below hb0).mono hn)
  have hS0 := hS.same ((Same.of_below hb0).mono hn)
  have hx0 : ((w.alloc (.cells (bookCells B ta tc sa sc) 30)).alloc (.cells zero93 93)).heap[w.heap.size]? = some (.cells (bookCells B ta tc sa sc) 30 (0, 0)) := (Below.heap_alloc _ _ _ (by simp)).trans (heap_alloc_new w _)
  have hr0 : ((w.alloc (.cells (bookCells B ta tc sa sc) 30)).alloc (.cells zero93 93)).heap[w.heap.size + 1]? = some (.cells zero93 93 (0, 0)) := heap_alloc2_new w _ _
  go_enter Tryd.func72, Tryd.ntmps72
  go_wp2_with (first | (refine ld30 rfl _ rfl _ _ rfl hx0 rfl ?_) | (go_at_call 43; refine (check_any B _ _ _ _ _ _ _ _ _ (hT0.up (by simp; omega)) (hS0.up (by simp; omega))).mono ?_; rintro e w1 ⟨rfl, hb⟩; rw [hC.out]; have hbA := hb0.trans (hb.mono (by simp; omega)); have hx := (hb.block _ (by simp <;> omega)).trans hx0; have hxl := (Array.getElem?_eq_some_iff.1 hx).1; have hr := (hb.block _ (by simp <;> omega)).trans hr0; have hrl := (Array.getElem?_eq_some_iff.1 hr).1) | (refine st93 rfl _ _ rfl _ zero93 zero93 rfl rfl hr rfl rfl (by simp [Value.oneCell']) ?_))
  refine bodyPost_ret (results_cell_tmp rfl _ _ (w.heap.size + 1) 93 zero93 (0, 0) _ rfl (setRow_heap _ _ _ _ _ _ hr) Tryd.underlying93 rfl (by rw [size93]; rfl)) rfl ?_
  exact ⟨zero93, by rw [hE.out]; rfl, (SetAt.row _ _ _).below (by omega) hbA, ⟨rfl, by simp [Value.oneCell'], fun h => by rw [hE.out] at h; cases h⟩⟩
set_option maxRecDepth 100000 in
set_option maxHeartbeats 2000000 in
theorem asked_not (nA : Nat) (B : Book) (tb tq : Nat) (ta : Option Addr) (tc : Nat) (sb sq : Nat) (sa : Option Addr) (sc : Nat) (w : World)
    (hn : nA ≤ w.heap.size) (_hG : GL nA w) (hT : SpansAt nA w tb tq ta B.tides) (hS : SoundsAt nA w sb sq sa B.sounds) (hC : Hid (checkE B = 0)) (hE : Hid (askE B false = 21)) :
    Calls Tryd.prog 72 #[bookVal B ta tc sa sc, .bool false] w (AskPost B ta tc sa sc false w) := by
  have hb0 : Below w.heap.size w ((w.alloc (.cells (bookCells B ta tc sa sc) 30)).alloc (.cells zero93 93)) := ((Below.refl _ w).alloc (Nat.le_refl _) _).alloc (by simp) _
  have hT0 := hT.same ((Same.of_below hb0).mono hn)
  have hS0 := hS.same ((Same.of_below hb0).mono hn)
  have hx0 : ((w.alloc (.cells (bookCells B ta tc sa sc) 30)).alloc (.cells zero93 93)).heap[w.heap.size]? = some (.cells (bookCells B ta tc sa sc) 30 (0, 0)) := (Below.heap_alloc _ _ _ (by simp)).trans (heap_alloc_new w _)
  have hr0 : ((w.alloc (.cells (bookCells B ta tc sa sc) 30)).alloc (.cells zero93 93)).heap[w.heap.size + 1]? = some (.cells zero93 93 (0, 0)) := heap_alloc2_new w _ _
  go_enter Tryd.func72, Tryd.ntmps72
  go_wp2_with (first | (refine ld30 rfl _ rfl _ _ rfl hx0 rfl ?_) | (go_at_call 43; refine (check_any B _ _ _ _ _ _ _ _ _ (hT0.up (by simp; omega)) (hS0.up (by simp; omega))).mono ?_; rintro e w1 ⟨rfl, hb⟩; rw [hC.out]; have hbA := hb0.trans (hb.mono (by simp; omega)); have hx := (hb.block _ (by simp <;> omega)).trans hx0; have hxl := (Array.getElem?_eq_some_iff.1 hx).1; have hr := (hb.block _ (by simp <;> omega)).trans hr0; have hrl := (Array.getElem?_eq_some_iff.1 hr).1) | (refine st93 rfl _ _ rfl _ zero93 zero93 rfl rfl hr rfl rfl (by simp [Value.oneCell']) ?_))
  refine bodyPost_ret (results_cell_tmp rfl _ _ (w.heap.size + 1) 93 zero93 (0, 0) _ rfl (setRow_heap _ _ _ _ _ _ hr) Tryd.underlying93 rfl (by rw [size93]; rfl)) rfl ?_
  exact ⟨zero93, by rw [hE.out]; rfl, (SetAt.row _ _ _).below (by omega) hbA, ⟨rfl, by simp [Value.oneCell'], fun h => by rw [hE.out] at h; cases h⟩⟩
set_option maxRecDepth 100000 in
set_option maxHeartbeats 2000000 in
theorem asked_false (nA : Nat) (B : Book) (tb tq : Nat) (ta : Option Addr) (tc : Nat) (sb sq : Nat) (sa : Option Addr) (sc : Nat) (w : World)
    (hn : nA ≤ w.heap.size) (hG : GL nA w) (hT : SpansAt nA w tb tq ta B.tides) (hS : SoundsAt nA w sb sq sa B.sounds) (hV : VB B) (hC : Hid (checkE B = 0)) (hE : Hid (askE B true = 22)) (hq : ((ext0 B (dep B.sounds [])).length : Int) = 0) :
    Calls Tryd.prog 72 #[bookVal B ta tc sa sc, .bool true] w (AskPost B ta tc sa sc true w) := by
  have hb0 : Below w.heap.size w ((w.alloc (.cells (bookCells B ta tc sa sc) 30)).alloc (.cells zero93 93)) := ((Below.refl _ w).alloc (Nat.le_refl _) _).alloc (by simp) _
  have hT0 := hT.same ((Same.of_below hb0).mono hn)
  have hS0 := hS.same ((Same.of_below hb0).mono hn)
  have hx0 : ((w.alloc (.cells (bookCells B ta tc sa sc) 30)).alloc (.cells zero93 93)).heap[w.heap.size]? = some (.cells (bookCells B ta tc sa sc) 30 (0, 0)) := (Below.heap_alloc _ _ _ (by simp)).trans (heap_alloc_new w _)
  have hr0 : ((w.alloc (.cells (bookCells B ta tc sa sc) 30)).alloc (.cells zero93 93)).heap[w.heap.size + 1]? = some (.cells zero93 93 (0, 0)) := heap_alloc2_new w _ _
  go_enter Tryd.func72, Tryd.ntmps72
  go_wp2_with (first | (refine ld30 rfl _ rfl _ _ rfl hx0 rfl ?_) | (go_at_call 43; refine (check_any B _ _ _ _ _ _ _ _ _ (hT0.up (by simp; omega)) (hS0.up (by simp; omega))).mono ?_; rintro e w1 ⟨rfl, hb⟩; rw [hC.out]; have hbA := hb0.trans (hb.mono (by simp; omega)); have hx := (hb.block _ (by simp <;> omega)).trans hx0; have hxl := (Array.getElem?_eq_some_iff.1 hx).1; have hr := (hb.block _ (by simp <;> omega)).trans hr0; have hrl := (Array.getElem?_eq_some_iff.1 hr).1) | (refine ld30 rfl _ rfl _ _ rfl hx rfl ?_) | (go_at_call 70; refine (opened_any nA B tb tq ta tc sb sq sa sc 0 0 none 0 [] _ hV (by have := hbA.size; omega) (hG.same ((Same.of_below hbA).mono hn)) (hT.same ((Same.of_below hbA).mono hn)) (hS.same ((Same.of_below hbA).mono hn)) (nilInts _ _)).mono ?_; rintro e w2 ⟨m, ca, cc, rfl, hb2, hM2, hC2⟩; have hbB := hbA.trans (hb2.mono (by have := hbA.size; omega)); have hr2 := (hb2.block _ hrl).trans hr; have hrl2 := (Array.getElem?_eq_some_iff.1 hr2).1; have hr3 := (Below.heap_alloc w2 (.cells (calcCells B ta tc sa sc m (.slice ca (ext0 B (dep B.sounds [])).length cc)) 93) _ hrl2).trans hr2; have hn3 := heap_alloc_new w2 (.cells (calcCells B ta tc sa sc m (.slice ca (ext0 B (dep B.sounds [])).length cc)) 93); have hn3l : w2.heap.size < (w2.alloc (.cells (calcCells B ta tc sa sc m (.slice ca (ext0 B (dep B.sounds [])).length cc)) 93)).heap.size := by simp) | (refine ld93 rfl _ rfl _ _ rfl hn3 rfl ?_) | (refine st93 rfl _ _ rfl _ (calcCells B ta tc sa sc m (.slice ca (ext0 B (dep B.sounds [])).length cc)) zero93 rfl rfl hr3 rfl rfl (by simp [Value.oneCell']) ?_))
  refine bodyPost_ret (results_cell_tmp rfl _ _ (w.heap.size + 1) 93 (calcCells B ta tc sa sc m (.slice ca (ext0 B (dep B.sounds [])).length cc)) (0, 0) _ rfl (setRow_heap _ _ _ _ _ _ hr3) Tryd.underlying93 rfl (by rw [size93]; rfl)) rfl ?_
  exact ⟨_, by rw [hE.out]; rfl, (SetAt.row _ _ _).below (by omega) (hbB.alloc (by have := hbB.size; omega) _), ⟨rfl, by simp [Value.oneCell'], fun h => by rw [hE.out] at h; cases h⟩⟩
set_option maxRecDepth 100000 in
set_option maxHeartbeats 2000000 in
theorem asked_true (nA : Nat) (B : Book) (tb tq : Nat) (ta : Option Addr) (tc : Nat) (sb sq : Nat) (sa : Option Addr) (sc : Nat) (w : World)
    (hn : nA ≤ w.heap.size) (hG : GL nA w) (hT : SpansAt nA w tb tq ta B.tides) (hS : SoundsAt nA w sb sq sa B.sounds) (hV : VB B) (hC : Hid (checkE B = 0)) (hE : Hid (askE B true = 0)) (hq : ¬ ((ext0 B (dep B.sounds [])).length : Int) = 0) :
    Calls Tryd.prog 72 #[bookVal B ta tc sa sc, .bool true] w (AskPost B ta tc sa sc true w) := by
  have hb0 : Below w.heap.size w ((w.alloc (.cells (bookCells B ta tc sa sc) 30)).alloc (.cells zero93 93)) := ((Below.refl _ w).alloc (Nat.le_refl _) _).alloc (by simp) _
  have hT0 := hT.same ((Same.of_below hb0).mono hn)
  have hS0 := hS.same ((Same.of_below hb0).mono hn)
  have hx0 : ((w.alloc (.cells (bookCells B ta tc sa sc) 30)).alloc (.cells zero93 93)).heap[w.heap.size]? = some (.cells (bookCells B ta tc sa sc) 30 (0, 0)) := (Below.heap_alloc _ _ _ (by simp)).trans (heap_alloc_new w _)
  have hr0 : ((w.alloc (.cells (bookCells B ta tc sa sc) 30)).alloc (.cells zero93 93)).heap[w.heap.size + 1]? = some (.cells zero93 93 (0, 0)) := heap_alloc2_new w _ _
  go_enter Tryd.func72, Tryd.ntmps72
  go_wp2_with (first | (refine ld30 rfl _ rfl _ _ rfl hx0 rfl ?_) | (go_at_call 43; refine (check_any B _ _ _ _ _ _ _ _ _ (hT0.up (by simp; omega)) (hS0.up (by simp; omega))).mono ?_; rintro e w1 ⟨rfl, hb⟩; rw [hC.out]; have hbA := hb0.trans (hb.mono (by simp; omega)); have hx := (hb.block _ (by simp <;> omega)).trans hx0; have hxl := (Array.getElem?_eq_some_iff.1 hx).1; have hr := (hb.block _ (by simp <;> omega)).trans hr0; have hrl := (Array.getElem?_eq_some_iff.1 hr).1) | (refine ld30 rfl _ rfl _ _ rfl hx rfl ?_) | (go_at_call 70; refine (opened_any nA B tb tq ta tc sb sq sa sc 0 0 none 0 [] _ hV (by have := hbA.size; omega) (hG.same ((Same.of_below hbA).mono hn)) (hT.same ((Same.of_below hbA).mono hn)) (hS.same ((Same.of_below hbA).mono hn)) (nilInts _ _)).mono ?_; rintro e w2 ⟨m, ca, cc, rfl, hb2, hM2, hC2⟩; have hbB := hbA.trans (hb2.mono (by have := hbA.size; omega)); have hr2 := (hb2.block _ hrl).trans hr; have hrl2 := (Array.getElem?_eq_some_iff.1 hr2).1; have hr3 := (Below.heap_alloc w2 (.cells (calcCells B ta tc sa sc m (.slice ca (ext0 B (dep B.sounds [])).length cc)) 93) _ hrl2).trans hr2; have hn3 := heap_alloc_new w2 (.cells (calcCells B ta tc sa sc m (.slice ca (ext0 B (dep B.sounds [])).length cc)) 93); have hn3l : w2.heap.size < (w2.alloc (.cells (calcCells B ta tc sa sc m (.slice ca (ext0 B (dep B.sounds [])).length cc)) 93)).heap.size := by simp) | (refine ld93 rfl _ rfl _ _ rfl hn3 rfl ?_) | (refine st93 rfl _ _ rfl _ (calcCells B ta tc sa sc m (.slice ca (ext0 B (dep B.sounds [])).length cc)) zero93 rfl rfl hr3 rfl rfl (by simp [Value.oneCell']) ?_))
  refine bodyPost_ret (results_cell_tmp rfl _ _ (w.heap.size + 1) 93 (calcCells B ta tc sa sc m (.slice ca (ext0 B (dep B.sounds [])).length cc)) (0, 0) _ rfl (setRow_heap _ _ _ _ _ _ hr3) Tryd.underlying93 rfl (by rw [size93]; rfl)) rfl ?_
  have hset := SetAt.row (w2.alloc (.cells (calcCells B ta tc sa sc m (.slice ca (ext0 B (dep B.sounds [])).length cc)) 93)) (w.heap.size + 1) (calcCells B ta tc sa sc m (.slice ca (ext0 B (dep B.sounds [])).length cc))
  refine ⟨_, by rw [hE.out]; rfl, hset.below (by omega) (hbB.alloc (by have := hbB.size; omega) _), ⟨rfl, by simp [Value.oneCell'], fun _ => ?_⟩⟩
  refine AskFacts.down (z := w1.heap.size) ?_ (by have := hbA.size; omega)
  exact AskFacts.keep (W := w2) ⟨m, ca, cc, rfl, hM2, hC2⟩ (fun k _ hz hk _ => (hset.other k (by omega)).trans ((Below.heap_alloc _ _ _ (Array.getElem?_eq_some_iff.1 hk).1).trans hk))
theorem asked_any (nA : Nat) (B : Book) (tb tq : Nat) (ta : Option Addr) (tc : Nat) (sb sq : Nat) (sa : Option Addr) (sc : Nat) (is : Bool) (w : World)
    (hn : nA ≤ w.heap.size) (hG : GL nA w) (hT : SpansAt nA w tb tq ta B.tides) (hS : SoundsAt nA w sb sq sa B.sounds) :
    Calls Tryd.prog 72 #[bookVal B ta tc sa sc, .bool is] w (AskPost B ta tc sa sc is w) := by
  cases hv : B.valid
  · exact asked_bad nA B tb tq ta tc sb sq sa sc is w hn hG hT hS (Lib.hid (by simp [checkE, hv])) (Lib.hid (by simp [askE, hv]))
  · have hV := VB.of_valid hv
    have hC : Hid (checkE B = 0) := Lib.hid (by simp [checkE, hv])
    cases is
    · exact asked_not nA B tb tq ta tc sb sq sa sc w hn hG hT hS hC (Lib.hid (by simp [askE, hv]))
    · by_cases h0 : (ext0 B (dep B.sounds [])).length = 0
      · exact asked_false nA B tb tq ta tc sb sq sa sc w hn hG hT hS hV hC (Lib.hid (by simp [askE, hv, List.length_eq_zero_iff.1 h0])) (by omega)
      · refine asked_true nA B tb tq ta tc sb sq sa sc w hn hG hT hS hV hC (Lib.hid ?_) (by omega)
        have hne : (ext0 B (dep B.sounds [])).isEmpty = false := by
          cases he : ext0 B (dep B.sounds []) with
          | nil => simp [he] at h0
          | cons x l => rfl
        simp [askE, hv, hne]
end Go.Proofs.YtkbmpkdflgimmaaDoor
/- The contract of Right. -/
namespace Go.Proofs.YtkbmpkdflgimmaaDoor
open Go.RowKit Go.Shelf

/-- What the exported functions read: the book's lists and the package's variables, below n. -/
structure Env (n : Nat) (W : World) (B : Book) (tb tq : Nat) (ta : Option Addr) (sb sq : Nat) (sa : Option Addr) : Prop where
  gl : GL n W
  tides : SpansAt n W tb tq ta B.tides
  sounds : SoundsAt n W sb sq sa B.sounds
theorem Env.same {n : Nat} {W W' : World} {B : Book} {tb tq : Nat} {ta : Option Addr} {sb sq : Nat} {sa : Option Addr} (h : Env n W B tb tq ta sb sq sa) (hb : Same n W W') : Env n W' B tb tq ta sb sq sa := ⟨h.gl.same hb, h.tides.same hb, h.sounds.same hb⟩
theorem Env.below {n : Nat} {W W' : World} {B : Book} {tb tq : Nat} {ta : Option Addr} {sb sq : Nat} {sa : Option Addr} (h : Env n W B tb tq ta sb sq sa) (hn : n ≤ W.heap.size) (hb : Below W.heap.size W W') : Env n W' B tb tq ta sb sq sa := h.same ((Same.of_below hb).mono hn)
def rightR (B : Book) : Bool × Int := if B.valid then (!(cansB B).isEmpty, 0) else (false, 20)
def RightPost (B : Book) (w : World) (e : Ending) (w' : World) : Prop := e = .returned (.tuple #[.bool (rightR B).1, i64 (rightR B).2]) ∧ Below w.heap.size w w'
theorem field93_2 (B : Book) (ta : Option Addr) (tc : Nat) (sa : Option Addr) (sc m : Nat) (cv : Value) (w : World) : (Instr.field 93 (calcVal B ta tc sa sc m cv) 2).run Tryd.prog w = .ok cv w := by
  have hu := run_underlying Tryd.underlying93 w
  simp [Instr.field, Sem.run_bind, hu, go_sem, asAgg]
theorem results_tmp2 {P : Program} {fn : Func} {p q : Tmp} (h : fn.results = #[.tmp p, .tmp q]) (tmps : Array Value) (w : World) : (results fn tmps).run P w = .ok (.tuple #[tmps.getD p undef, tmps.getD q undef]) w := by
  simp [results, h]
set_option maxRecDepth 100000 in
set_option maxHeartbeats 2000000 in
theorem Right_any (nA : Nat) (B : Book) (tb tq : Nat) (ta : Option Addr) (tc : Nat) (sb sq : Nat) (sa : Option Addr) (sc : Nat) (w : World) (hn : nA ≤ w.heap.size) (hE : Env nA w B tb tq ta sb sq sa) :
    Calls Tryd.prog 25 #[bookVal B ta tc sa sc] w (RightPost B w) := by
  have hb0 : Below w.heap.size w (w.alloc (.cells (bookCells B ta tc sa sc) 30)) := (Below.refl _ w).alloc (Nat.le_refl _) _
  have hE0 := hE.below hn hb0
  have hx0 : (w.alloc (.cells (bookCells B ta tc sa sc) 30)).heap[w.heap.size]? = some (.cells (bookCells B ta tc sa sc) 30 (0, 0)) := heap_alloc_new w _
  cases hv : B.valid
  · have hC : Hid (checkE B = 20) := Lib.hid (by simp [checkE, hv])
    have hR : Hid (rightR B = (false, 20)) := Lib.hid (by simp [rightR, hv])
    clear hv
    go_enter Tryd.func25, Tryd.ntmps25
    go_wp2_with (first | (refine ld30 rfl _ rfl _ _ rfl hx0 rfl ?_) | (go_at_call 43; refine (check_any B _ _ _ _ _ _ _ _ _ (hE0.tides.up (by simp; omega)) (hE0.sounds.up (by simp; omega))).mono ?_; rintro e w1 ⟨rfl, hb⟩; rw [hC.out]))
    refine bodyPost_ret (results_tmp2 rfl _ _) rfl ?_
    exact ⟨by rw [hR.out]; rfl, hb0.trans (by rename_i hb; exact hb.mono (by simp))⟩
  · have hV := VB.of_valid hv
    have hC : Hid (checkE B = 0) := Lib.hid (by simp [checkE, hv])
    have hR : Hid (rightR B = (decide (0 < (cansB B).length), 0)) := Lib.hid (by
      have : (!(cansB B).isEmpty) = decide (0 < (cansB B).length) := by cases cansB B <;> simp
      simp [rightR, hv, this])
    clear hv
    have hf := field93_2 B ta tc sa sc
    go_enter Tryd.func25, Tryd.ntmps25
    go_wp2_with (first | (refine ld30 rfl _ rfl _ _ rfl hx0 rfl ?_) | (go_at_call 43; refine (check_any B _ _ _ _ _ _ _ _ _ (hE0.tides.up (by simp; omega)) (hE0.sounds.up (by simp; omega))).mono ?_; rintro e w1 ⟨rfl, hb⟩; rw [hC.out]; have hx1 := (hb.block _ (by simp)).trans hx0; have hbA := hb0.trans (hb.mono (by simp)); have hE1 := hE.same ((Same.of_below hbA).mono hn); have hn1 : nA ≤ w1.heap.size := by (have := hbA.size; omega)) | (refine ld30 rfl _ rfl _ _ rfl hx1 rfl ?_) | (go_at_call 70; refine (opened_any nA B tb tq ta tc sb sq sa sc 0 0 none 0 [] _ hV hn1 hE1.gl hE1.tides hE1.sounds (nilInts _ _)).mono ?_; rintro e w2 ⟨m, ca, cc, rfl, hb2, _, _⟩; have hbB := hbA.trans (hb2.mono hbA.size)))
    refine bodyPost_ret (results_tmp2 rfl _ _) rfl ?_
    exact ⟨by rw [hR.out]; rfl, hbB⟩
end Go.Proofs.YtkbmpkdflgimmaaDoor
/- The region 'b, e := asked(..)': what its steps leave. -/
namespace Go.Proofs.YtkbmpkdflgimmaaDoor
open Go.RowKit Go.Shelf

/-- From w to w': below z nothing changes; elsewhere only blocks of type 93 may be written. -/
structure RA (z : Nat) (w w' : World) : Prop where
  os : w'.os = w.os
  tape : w'.tape = w.tape
  output : w'.output = w.output
  size : w.heap.size ≤ w'.heap.size
  old : ∀ k, k < z → w'.heap[k]? = w.heap[k]?
  keep : ∀ (k : Nat) o, w.heap[k]? = some o → (∀ c, o ≠ .cells c 93 (0, 0)) → w'.heap[k]? = some o
  box : ∀ (k : Nat) c, w.heap[k]? = some (.cells c 93 (0, 0)) → ∃ c', w'.heap[k]? = some (.cells c' 93 (0, 0)) ∧ c'.size = c.size
theorem RA.refl (z : Nat) (w : World) : RA z w w := ⟨rfl, rfl, rfl, Nat.le_refl _, fun _ _ => rfl, fun _ _ h _ => h, fun _ c h => ⟨c, h, rfl⟩⟩
theorem RA.drawn (z : Nat) (w : World) (n : Nat) : RA z w { w with drawn := n } := ⟨rfl, rfl, rfl, Nat.le_refl _, fun _ _ => rfl, fun _ _ h _ => h, fun _ c h => ⟨c, h, rfl⟩⟩
theorem RA.trans {z : Nat} {A B C : World} (h : RA z A B) (k : RA z B C) : RA z A C :=
  ⟨k.os.trans h.os, k.tape.trans h.tape, k.output.trans h.output, Nat.le_trans h.size k.size, fun i hi => (k.old i hi).trans (h.old i hi), fun i o ho hn => k.keep i o (h.keep i o ho hn) hn, fun i c hc => by
    obtain ⟨c1, h1, h2⟩ := h.box i c hc
    obtain ⟨c2, h3, h4⟩ := k.box i c1 h1
    exact ⟨c2, h3, h4.trans h2⟩⟩
theorem RA.of_below {z : Nat} {w w' : World} (hz : z ≤ w.heap.size) (hb : Below w.heap.size w w') : RA z w w' :=
  ⟨hb.os, hb.tape, hb.output, hb.size, fun k hk => hb.block k (by omega), fun k _ hk _ => (hb.block k (Array.getElem?_eq_some_iff.1 hk).1).trans hk, fun k c hk => ⟨c, (hb.block k (Array.getElem?_eq_some_iff.1 hk).1).trans hk, rfl⟩⟩
theorem RA.store {z b : Nat} {w : World} {c cs : Array Value} (hz : z ≤ b) (hc : w.heap[b]? = some (.cells c 93 (0, 0))) (hs : cs.size = c.size) : RA z w (w.setRow b cs) := by
  refine ⟨rfl, rfl, rfl, by simp, fun k hk => setRow_other _ _ _ _ (by omega), fun k o ho hn => ?_, fun k c' hk => ?_⟩
  · by_cases hkb : k = b
    · subst hkb; rw [hc] at ho; cases ho; exact absurd rfl (hn c)
    · rw [setRow_other _ _ _ _ hkb]; exact ho
  · by_cases hkb : k = b
    · subst hkb
      rw [hc] at hk
      cases hk
      exact ⟨cs, setRow_heap _ _ _ _ _ _ hc, hs⟩
    · exact ⟨c', by rw [setRow_other _ _ _ _ hkb]; exact hk, rfl⟩
theorem RA.below {z : Nat} {w w' : World} (h : RA z w w') : Below z w w' := ⟨h.os, h.tape, h.output, h.size, h.old⟩
theorem AskFacts.ra {z z' : Nat} {B : Book} {ta : Option Addr} {tc : Nat} {sa : Option Addr} {sc : Nat} {W W' : World} {cs : Array Value} (h : AskFacts z B ta tc sa sc W cs) (hr : RA z' W W') : AskFacts z B ta tc sa sc W' cs :=
  h.keep fun k o _ hk hx => hr.keep k o hk (fun c => by rcases hx with ⟨_, _, rfl⟩ | ⟨_, rfl⟩ | ⟨_, rfl⟩ <;> simp)
section
variable {P : Program} {l : List Oper} {Q : Exit → Act → World → Prop} {rd : Nat → List Nat} {pure : Nat → Bool} {G : Nat → List Value → World → Prop} {R : World → World → Prop} {i : Nat} {o : Oper} {a : Act} {w : World}
theorem rg_val (hg : o.guard = none) (v : Value) (h : (execOp a.eval o).run P w = .ok (.value v) w) (hR : R w w) (hG : G i (valsOf rd i (a.put o.dst v)) w) : RgStep P l Q rd pure G R i o a w := by
  unfold RgStep
  rw [if_pos (by simp [Region.wanted, hg])]
  unfold Oper.wp
  rw [h]
  exact ⟨v, rfl, hR, fun _ => rfl, hG⟩
theorem rg_call (hg : o.guard = none) (f : FuncId) (args : Array Value) (h : (execOp a.eval o).run P w = .ok (.enter f args) w) (hp : pure i = false)
    (hc : Calls P f args w fun e w' => ∃ v, e = .returned v ∧ R w w' ∧ G i (valsOf rd i (a.put o.dst v)) w') : RgStep P l Q rd pure G R i o a w := by
  unfold RgStep
  rw [if_pos (by simp [Region.wanted, hg])]
  unfold Oper.wp
  rw [h]
  refine Calls.mono hc ?_
  rintro e w' ⟨v, rfl, hR, hG⟩
  exact ⟨v, rfl, hR, (fun h => by rw [hp] at h; cases h), hG⟩
theorem rg_wp (hg : o.guard = none) (hp : pure i = false) (h : o.wp P a w (fun a' w' => ∃ v, a' = a.put o.dst v ∧ R w w' ∧ G i (valsOf rd i a') w') Q) : RgStep P l Q rd pure G R i o a w := by
  unfold RgStep
  rw [if_pos (by simp [Region.wanted, hg])]
  refine Oper.wp_mono ?_ h
  rintro a' w' ⟨v, h1, h2, h3⟩
  exact ⟨v, h1, h2, (fun h => by rw [hp] at h; cases h), h3⟩
end
theorem slotOf_same (a : Act) (d : Nat) (v : Value) (h : d < a.tmps.size) : slotOf (a.put (some d) v) d = v := by
  simp [slotOf, Act.put, Array.getD_eq_getD_getElem?, h]
theorem act_eta (a : Act) (n : Nat) (hs : a.tmps.size = n) (hd : a.defers = []) : a = { tmps := ((List.range n).map (slotOf a)).toArray, defers := [] } := by
  obtain ⟨t, d⟩ := a
  simp only at hd hs
  subst hd
  congr
  apply Array.ext
  · simp [hs]
  · intro k h1 h2
    simp [slotOf, Array.getD_eq_getD_getElem?, h1]
section
variable {P : Program} {o : Oper} {a : Act} {w : World}
theorem ex_load_row (ty : TypeId) (x : Operand) (ho : o.op = .load ty x) (g : Nat) (hx : a.eval x = .pointer (some ⟨g, 0, none⟩)) (t : TypeId) (cs : Array Value) (fr : Nat × Nat) (d : TypeDesc) (hg : w.heap[g]? = some (.cells cs t fr))
    (hu : P.underlying ty = some d) (hd : (match d with | .struct _ | .array _ _ => true | _ => false) = true) (hi : (P.info? ty).map (·.size) = some cs.size) : (execOp a.eval o).run P w = .ok (.value (.agg cs)) w := by
  unfold execOp
  simp only [ho, hx, Instr.loadAt, Instr.sureAddr, Sem.run_bind, Sem.run_pure, Result.andThen_ok, run_loadVar_row w g t ty cs fr d hg hu hd hi]
theorem ex_move (x : Operand) (ho : o.op = .move x) (v : Value) (hx : a.eval x = v) : (execOp a.eval o).run P w = .ok (.value v) w := by
  unfold execOp
  simp [ho, hx]
theorem ex_assign (x : Operand) (ho : o.op = .assign x) (v : Value) (hx : a.eval x = v) : (execOp a.eval o).run P w = .ok (.value v) w := by
  unfold execOp
  simp [ho, hx]
theorem ex_extract (x : Operand) (n : Nat) (ho : o.op = .extract x n) (vs : Array Value) (v : Value) (hx : a.eval x = .tuple vs) (hv : vs[n]? = some v) : (execOp a.eval o).run P w = .ok (.value v) w := by
  unfold execOp
  simp [ho, hx, Instr.extract, hv]
end
end Go.Proofs.YtkbmpkdflgimmaaDoor
