/- The closure of opened: what the bottoms can be; definitions, and its call at the third shore. -/
import Derived.Test.YtkbmpkdflgimmaaDoorCans
import Derived.Maps.AppendAt
import Derived.OwnWalk
import Derived.ChangeKeysEq
namespace Go.Proofs.YtkbmpkdflgimmaaDoor
open Go.RowKit Go.Shelf

theorem run_eq99In (n : Nat) (a b c d : Int) (w : World) : (Op.equalIn (n + 2) 99 (.agg #[i64 a, i64 b]) (.agg #[i64 c, i64 d])).run Tryd.prog w = .ok (a == c && b == d) w := by
  have hi : (Tryd.prog.info? 3).map (·.size) = some 1 := by kernel_rfl
  obtain ⟨i, hi, _⟩ := Option.map_eq_some_iff.1 hi
  rw [run_equalIn_array w (n + 1) #[i64 a, i64 b] #[i64 c, i64 d] Tryd.underlying99 hi, show Tryd.prog.cellsOf 3 = 1 by kernel_rfl]
  have h1 := run_equalIn_int (P := Tryd.prog) w n 3 .i64 .i64 a c Tryd.underlying3
  have h2 := run_equalIn_int (P := Tryd.prog) w n 3 .i64 .i64 b d Tryd.underlying3
  have hr : List.range 2 = [0, 1] := rfl
  cases e1 : (a == c) <;> cases e2 : (b == d) <;> simp [Op.eqItems, hr, part3, part3', Sem.run_bind, h1, h2, e1, e2]
theorem run_eq99 (a b c d : Int) (w : World) : (Op.equal 99 (.agg #[i64 a, i64 b]) (.agg #[i64 c, i64 d])).run Tryd.prog w = .ok (a == c && b == d) w := run_eq99In 9998 a b c d w

/-- Whether each hour has a height, with some bottoms. -/
def canB (B : Book) (D : Int → Int → List Int) (f0 f1 : Int) : Bool := (List.range B.tides.length).all fun h => match B.tides[h]? with
  | some t => !(hList t D h f0 f1).isEmpty
  | none => true
def extC (B : Book) (D : Int → Int → List Int) (f0 f1 : Int) : List (Int × Int) := if canB B D f0 f1 then [(f0, f1)] else []
def flatC (l : List (Int × Int)) : List Value := l.flatMap fun f => [i64 f.1, i64 f.2]
theorem flatC_append (l k : List (Int × Int)) : flatC (l ++ k) = flatC l ++ flatC k := by simp [flatC]
/-- Block m is a map that gives D h s at each place; it and what it holds lie below n, and off block bb. -/
def MapFix (bb n : Nat) (W : World) (m : Nat) (D : Int → Int → List Int) : Prop := (m < n ∧ m ≠ bb) ∧ ∃ M, MapAt W m M ∧ ∀ h s, ∃ b o a c, lookV h s M = .slice a (D h s).length c ∧ IntsAt n W b o a (D h s) ∧ (D h s ≠ [] → b ≠ bb)
theorem MapFix.mapIn {bb n : Nat} {W : World} {m : Nat} {D : Int → Int → List Int} (h : MapFix bb n W m D) : MapIn n W m D := by
  obtain ⟨⟨h1, _⟩, M, h2, h3⟩ := h
  refine ⟨h1, M, h2, fun h s => ?_⟩
  obtain ⟨b, o, a, c, e, hi, _⟩ := h3 h s
  exact ⟨b, o, a, c, e, hi⟩
/-- Below n, all but block bb is as it was. -/
def SameBut (bb n : Nat) (W W' : World) : Prop := W.heap.size ≤ W'.heap.size ∧ ∀ k, k < n → k ≠ bb → W'.heap[k]? = W.heap[k]?
theorem SameBut.cell {bb n : Nat} {W W' : World} (h : SameBut bb n W W') {p : Addr} (hp : p.block < n) (hb : p.block ≠ bb) : W'.cell? p = W.cell? p := World.cell?_of_block (w := W) (h.2 p.block hp hb)
theorem MapFix.same {bb n : Nat} {W W' : World} {m : Nat} {D : Int → Int → List Int} (h : MapFix bb n W m D) (hs : SameBut bb n W W') : MapFix bb n W' m D := by
  obtain ⟨⟨h1, h1'⟩, M, h2, h3⟩ := h
  refine ⟨⟨h1, h1'⟩, M, (hs.2 m h1 h1').trans h2, fun h s => ?_⟩
  obtain ⟨b, o, a, c, e, hi, hb⟩ := h3 h s
  exact ⟨b, o, a, c, e, ⟨hi.len, hi.at_, hi.lt, fun k hk => (hs.cell (p := ⟨b, _, none⟩) (hi.lt (ne_nil_of_lt hk)) (hb (ne_nil_of_lt hk))).trans (hi.cell k hk)⟩, hb⟩

/-- What opened's closure reads: the book's box x, its own box, the map, all below nM; the book's lists and the package's variables, below nA. -/
structure Op0 (nA nM xb fb bb : Nat) (B : Book) (tb tq : Nat) (ta : Option Addr) (tc : Nat) (sa : Option Addr) (sc m : Nat) (D : Int → Int → List Int) (W : World) : Prop where
  a2 : 2 < nA
  ab : nA ≤ bb
  bm : bb < nM
  xm : xb < nM ∧ xb ≠ bb
  fm : fb < nM ∧ fb ≠ bb
  sz : nM ≤ W.heap.size
  unk0 : W.cell? ⟨2, 0, none⟩ = some (i64 (-41))
  unk1 : W.cell? ⟨2, 1, none⟩ = some (i64 (-41))
  x : W.heap[xb]? = some (.cells (bookCells B ta tc sa sc) 30 (0, 0))
  f : W.heap[fb]? = some (.cells #[.func (.func 95) #[] #[.pointer (some ⟨xb, 0, none⟩), .pointer (some ⟨fb, 0, none⟩), .pointer (some ⟨bb, 0, none⟩)]] 120 (0, 0))
  tides : SpansAt nA W tb tq ta B.tides
  map : MapFix bb nM W m D
theorem Op0.same {nA nM xb fb bb : Nat} {B : Book} {tb tq : Nat} {ta : Option Addr} {tc : Nat} {sa : Option Addr} {sc m : Nat} {D : Int → Int → List Int} {W W' : World}
    (h : Op0 nA nM xb fb bb B tb tq ta tc sa sc m D W) (hs : SameBut bb nM W W') : Op0 nA nM xb fb bb B tb tq ta tc sa sc m D W' := by
  have h1 := h.a2
  have h2 := h.ab
  have h3 := h.bm
  refine ⟨h1, h2, h3, h.xm, h.fm, Nat.le_trans h.sz hs.1, (hs.cell (p := ⟨2, 0, none⟩) (by show 2 < nM; omega) (by show 2 ≠ bb; omega)).trans h.unk0, (hs.cell (p := ⟨2, 1, none⟩) (by show 2 < nM; omega) (by show 2 ≠ bb; omega)).trans h.unk1,
    (hs.2 _ h.xm.1 h.xm.2).trans h.x, (hs.2 _ h.fm.1 h.fm.2).trans h.f, h.tides.same ⟨hs.1, fun k hk => hs.2 k (by omega) (by omega)⟩, h.map.same hs⟩

/-- What a call of the closure does to the world: cv was the list so far, cv' is it now. -/
structure Step (bb : Nat) (cv cv' : Value) (W W' : World) : Prop where
  os : W'.os = W.os
  tape : W'.tape = W.tape
  output : W'.output = W.output
  size : W.heap.size ≤ W'.heap.size
  keep : ∀ k, k < W.heap.size → k ≠ bb → cv.ownBlock ≠ some k → W'.heap[k]? = W.heap[k]?
  row : ∀ g, cv'.ownBlock = some g → cv.ownBlock = some g ∨ W.heap.size ≤ g
theorem Step.of_below {bb : Nat} {cv : Value} {W W' : World} (h : Below W.heap.size W W') : Step bb cv cv W W' := ⟨h.os, h.tape, h.output, h.size, fun k hk _ _ => h.block k hk, fun _ h => .inl h⟩
theorem Step.trans {bb : Nat} {a b c : Value} {A B' C : World} (h : Step bb a b A B') (k : Step bb b c B' C) : Step bb a c A C := by
  refine ⟨k.os.trans h.os, k.tape.trans h.tape, k.output.trans h.output, Nat.le_trans h.size k.size, fun i hi hb hr => (k.keep i (Nat.lt_of_lt_of_le hi h.size) hb (fun e => ?_)).trans (h.keep i hi hb hr), fun g hg => ?_⟩
  · rcases h.row i e with h1 | h1
    · exact hr h1
    · omega
  · rcases k.row g hg with h1 | h1
    · exact h.row g h1
    · exact .inr (Nat.le_trans h.size h1)
theorem Step.sameBut {bb nM : Nat} {cv cv' : Value} {W W' : World} (h : Step bb cv cv' W W') (hn : nM ≤ W.heap.size) (hr : ∀ g, cv.ownBlock = some g → nM ≤ g) : SameBut bb nM W W' :=
  ⟨h.size, fun k hk hb => h.keep k (by omega) hb (fun e => by have := hr k e; omega)⟩
/-- The box of b, and its list, which holds l. -/
structure BB (nM bb : Nat) (B : Book) (ta : Option Addr) (tc : Nat) (sa : Option Addr) (sc m : Nat) (l : List (Int × Int)) (cv : Value) (W : World) : Prop where
  box : W.heap[bb]? = some (.cells (calcCells B ta tc sa sc m cv) 93 (0, 0))
  own : W.ownsRow nM 99 2 cv l.length (flatC l)
theorem BB.row {nM bb B ta tc sa sc m l cv W} (h : BB nM bb B ta tc sa sc m l cv W) : ∀ g, cv.ownBlock = some g → nM ≤ g := fun g hg => (h.own.lt g hg).1
theorem BB.is_slice {nM bb B ta tc sa sc m l cv W} (h : BB nM bb B ta tc sa sc m l cv W) : ∃ a n c, cv = .slice a n c := by
  rcases h.own.2 with ⟨h, _⟩ | ⟨g, cap, cur, h, _⟩
  · exact ⟨_, _, _, h⟩
  · exact ⟨_, _, _, h⟩
theorem BB.below {nM bb B ta tc sa sc m l cv W W'} (h : BB nM bb B ta tc sa sc m l cv W) (hb : Below W.heap.size W W') : BB nM bb B ta tc sa sc m l cv W' :=
  ⟨(hb.block _ (Array.getElem?_eq_some_iff.1 h.box).1).trans h.box, h.own.kept (row := none) ⟨hb.os, hb.tape, hb.output, hb.size, fun i hi _ => hb.block i hi⟩ (by cases hv : cv.ownBlock <;> simp)⟩
/-- Storing into field can of b's box. -/
theorem set_can {W : World} {bb : Nat} {B : Book} {ta : Option Addr} {tc : Nat} {sa : Option Addr} {sc m : Nat} {cv : Value} (h : W.heap[bb]? = some (.cells (calcCells B ta tc sa sc m cv) 93 (0, 0))) (v : Value) :
    (W.setCell ⟨bb, 15, none⟩ v).heap[bb]? = some (.cells (calcCells B ta tc sa sc m v) 93 (0, 0)) := by
  simp [World.setCell, Array.getElem?_modify, h]
theorem frozen_of {W : World} {b : Nat} {c : Array Value} {t : TypeId} (h : W.heap[b]? = some (.cells c t (0, 0))) (j : Nat) : W.frozen? ⟨b, j, none⟩ = false := by simp [World.frozen?, h]
theorem info99 : (Tryd.prog.info? 99).map (fun i => (i.zero, i.size, i.bytes)) = some (some (.agg #[i64 0, i64 0]), 2, 16) := by kernel_rfl
def FromPost (nM bb : Nat) (B : Book) (ta : Option Addr) (tc : Nat) (sa : Option Addr) (sc m : Nat) (l : List (Int × Int)) (cv : Value) (W : World) (e : Ending) (W' : World) : Prop :=
  e = .returned (.tuple #[]) ∧ ∃ cv', BB nM bb B ta tc sa sc m l cv' W' ∧ Step bb cv cv' W W'
theorem canB_take (B : Book) (D : Int → Int → List Int) (f0 f1 : Int) (k : Nat) (h : k < B.tides.length) :
    ((List.range (k + 1)).all fun h => match B.tides[h]? with | some t => !(hList t D h f0 f1).isEmpty | none => true) =
    (((List.range k).all fun h => match B.tides[h]? with | some t => !(hList t D h f0 f1).isEmpty | none => true) && !(hList B.tides[k] D k f0 f1).isEmpty) := by
  rw [List.range_succ, List.all_append]; simp [h]
set_option maxRecDepth 100000 in
set_option maxHeartbeats 2000000 in
theorem from2 (nA nM xb fb bb : Nat) (B : Book) (tb tq : Nat) (ta : Option Addr) (tc : Nat) (sa : Option Addr) (sc m : Nat) (D : Int → Int → List Int) (f0 f1 : Int) (l : List (Int × Int)) (cv : Value) (W : World)
    (h0 : Op0 nA nM xb fb bb B tb tq ta tc sa sc m D W) (hb : BB nM bb B ta tc sa sc m l cv W) (hh : ∀ k, k < B.tides.length → HourOk B k) (hl : l.length ≤ 1000)
    (h3 : -40 ≤ f0) (h4 : f0 ≤ 100) (h5 : -100 ≤ f1) (h6 : f1 ≤ 100) :
    Calls Tryd.prog 95 #[.agg #[i64 f0, i64 f1], i64 2, .pointer (some ⟨xb, 0, none⟩), .pointer (some ⟨fb, 0, none⟩), .pointer (some ⟨bb, 0, none⟩)] W
      (FromPost nM bb B ta tc sa sc m (l ++ extC B D f0 f1) cv W) := by
  obtain ⟨ca, cn, cc, rfl⟩ := hb.is_slice
  have hx := cells_of h0.x
  have hxl : xb < W.heap.size := Nat.lt_of_lt_of_le h0.xm.1 h0.sz
  have ht1 := h0.tides.len
  have hW1 : Below W.heap.size W (W.alloc (.cells #[i64 f0, i64 f1] 99)) := (Below.refl _ W).alloc (Nat.le_refl _) _
  have hB0 := hb.below hW1
  have hO0 := h0.same (Step.sameBut (Step.of_below (bb := bb) (cv := .slice ca cn cc) hW1) h0.sz hb.row)
  have hf0 : (W.alloc (.cells #[i64 f0, i64 f1] 99)).heap[W.heap.size]? = some (.cells #[i64 f0, i64 f1] 99 (0, 0)) := heap_alloc_new W _
  go_enter Tryd.func95, Tryd.ntmps95
  go_wp2_with fail
  go_loopw [41] (fun i wr => ∃ k : Nat, k ≤ B.tides.length ∧ i = .int .i64 k ∧ Below (W.heap.size + 1) (W.alloc (.cells #[i64 f0, i64 f1] 99)) wr ∧
      Hid (((List.range k).all fun h => match B.tides[h]? with | some t => !(hList t D h f0 f1).isEmpty | none => true) = true)) (fun i _ => B.tides.length - (intOf i).toNat)
  case atStart => exact ⟨0, Nat.zero_le _, rfl, Below.refl _ _, by simp [Hid]⟩
  case round =>
    obtain ⟨k, hk, rfl, hbw, hall⟩ := hrel
    have hbw' : Below (W.alloc (.cells #[i64 f0, i64 f1] 99)).heap.size (W.alloc (.cells #[i64 f0, i64 f1] 99)) wr := by simpa using hbw
    have hB1 := hB0.below hbw'
    have hO1 := hO0.same (Step.sameBut (Step.of_below (bb := bb) (cv := .slice ca cn cc) hbw') hO0.sz hB0.row)
    have hff := (hbw.block _ (Nat.lt_succ_self _)).trans hf0
    clear hx
    have hxc := cells_of hO1.x
    have hbc := cells_of hB1.box
    have hfc := cells_of hff
    have hfl : W.heap.size < wr.heap.size := (Array.getElem?_eq_some_iff.1 hff).1
    have hbl : bb < wr.heap.size := (Array.getElem?_eq_some_iff.1 hB1.box).1
    have hu0 := hO1.unk0
    have hu1 := hO1.unk1
    have hul : 2 < wr.heap.size := by have := hO1.a2; have := hO1.ab; omega
    have heq : (Op.equalIn 10000 99 (.agg #[i64 f0, i64 f1]) (.agg #[i64 (-41), i64 (-41)])).run Tryd.prog wr = .ok false wr := by
      have h := run_eq99In 9998 f0 f1 (-41) (-41) wr
      rwa [show (f0 == -41 && f1 == -41) = false by simp; omega] at h
    clear hB0 hO0 hf0 h0 hb
    by_cases hlt : k < B.tides.length
    · have hs := Lib.hid (canB_take B D f0 f1 k hlt)
      cases he : (hList B.tides[k] D k f0 f1).isEmpty
      · have he := Lib.hid he
        go_wp2_with (go_at_call 96; refine (callsIn_wide.1 (some_in 3 (by omega) nM B tb tq ta tc sa sc m ca cn cc D k (hh k hlt) f0 f1 (by omega) (by omega) (by omega) (by omega) _ hO1.sz (hO1.tides.up (by have := hO1.ab; have := hO1.bm; omega)) hO1.map.mapIn)).mono ?_; rintro e w' ⟨rfl, hb2⟩; rw [he.out])
        go_roundw
        case rel => exact ⟨k + 1, by omega, by go_num, hbw.trans (hb2.mono (by omega)), by show _ = _; rw [hs.out, hall.out, he.out]; rfl⟩
        case measure => simp [intOf]; omega
      · have he := Lib.hid he
        have hfin : Hid (extC B D f0 f1 = []) := by
          show _ = _
          have : canB B D f0 f1 = false := by
            rw [canB, List.all_eq_false]
            exact ⟨k, List.mem_range.2 hlt, by simp [hlt, he.out]⟩
          simp [extC, this]
        go_wp2_with (go_at_call 96; refine (callsIn_wide.1 (some_in 3 (by omega) nM B tb tq ta tc sa sc m ca cn cc D k (hh k hlt) f0 f1 (by omega) (by omega) (by omega) (by omega) _ hO1.sz (hO1.tides.up (by have := hO1.ab; have := hO1.bm; omega)) hO1.map.mapIn)).mono ?_; rintro e w' ⟨rfl, hb2⟩; rw [he.out])
        refine bodyPost_ret (results_none rfl _ _ _) rfl ⟨rfl, _, ?_, Step.of_below (hW1.trans ((hbw.mono (by omega)).trans (hb2.mono (by omega))))⟩
        rw [hfin.out, List.append_nil]
        exact hB1.below hb2
    · have hke : k = B.tides.length := by omega
      have hfin : Hid (extC B D f0 f1 = [(f0, f1)]) := by
        show _ = _
        have h := hall.out
        rw [hke] at h
        have : canB B D f0 f1 = true := h
        simp [extC, this]
      have hk' : ¬ (k : Int) < (B.tides.length : Int) := by omega
      clear hke
      obtain ⟨i0, hi, hz0, hz1, hz2⟩ := info_parts info99
      have hbb := hO1.bm
      have hsz1 := hO1.sz
      have hab := hO1.ab
      have hrw := hB1.row
      have hwr : W.heap.size ≤ wr.heap.size := by omega
      go_wp2_with (at_builtin; refine wpList_append_own_at _ rfl _ _ 91 rfl nM 99 i0 (.agg #[i64 0, i64 0]) 2 16 Tryd.underlying91 hi hz0 hz1 hz2 rfl (by decide) _ _ _ rfl (hB1.own.alloc _) ⟨wr.heap.size, 0, none⟩ 1 1 [i64 f0, i64 f1] rfl rfl (cell_two_new _ _ _ _) (by simp [Value.oneCell']) (by unfold maxLen; omega) (by omega) (by simp; omega) ?_; intro v' w1 hown' hgrow hnil hloc; obtain ⟨g', cap', rfl⟩ := ownsRow_succ hown'; have hbx1 := (hgrow.block bb (by simp; omega) (fun e => by have := hrw bb e.symm; omega)).trans ((Below.heap_alloc wr _ bb hbl).trans hB1.box); have hbc1 := cells_of hbx1; have hbf1 := frozen_of hbx1; have hbl1 := (Array.getElem?_eq_some_iff.1 hbx1).1)
      go_end0
      have hloc' : ∀ g, some g' = some g → (Value.slice ca cn cc).ownBlock = some g ∨ W.heap.size ≤ g := by
        intro g hg
        rcases hloc with h | h
        · exact .inl (h.symm.trans hg)
        · refine .inr ?_
          rw [show (Value.slice (some ⟨g', 0, none⟩) (l.length + 1) cap').ownBlock = some g' from rfl, hg] at h
          simp at h
          omega
      refine ⟨rfl, .slice (some ⟨g', 0, none⟩) (l.length + 1) cap', ⟨set_can hbx1 _, ?_⟩, ⟨hgrow.os.trans hbw.os, hgrow.tape.trans hbw.tape, hgrow.output.trans hbw.output, ?_, ?_, hloc'⟩⟩
      · rw [hfin.out, flatC_append, List.length_append]
        refine World.ownsRow.kept (row := some bb) hown' ⟨rfl, rfl, rfl, by simp [World.setCell], fun k _ hk => Below.heap_setCell _ _ _ k (fun e => hk (by rw [e]))⟩ (.inr (fun e => ?_))
        have := (hown'.lt g' rfl).1
        have e' : g' = bb := by simpa [Value.ownBlock] using e
        omega
      · have := hgrow.size
        simp [World.setCell] at this ⊢
        omega
      · intro k hk hkb hkr
        rw [Below.heap_setCell _ _ _ k hkb, hgrow.block k (by simp; omega) (fun e => hkr e.symm), Below.heap_alloc wr _ k (by omega)]
        exact (hbw.block k (by omega)).trans (hW1.block k hk)
end Go.Proofs.YtkbmpkdflgimmaaDoor
