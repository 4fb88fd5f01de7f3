/- Heights, Some, QRound, Lands, Cans, Must in one text. (Printed by merge.py.) -/
import Derived.Test.YtkbmpkdflgimmaaDoorS1
import Derived.RangeFuncNested
import Derived.RangeFuncCalls
import Derived.RangeFuncLeaves
import Derived.Shelf.Abstract
import Derived.TacticsInMore
import Derived.LoopNIn
import Derived.LoopIn
import Derived.OwnWalkIn
import Derived.RangeFuncBound
import Derived.Sort.QuietThIn
import Derived.Laws.EntriesVeiled
/- The heights of an hour: the iterator that heights hands back. -/
namespace Go.Proofs.YtkbmpkdflgimmaaDoor
open Go.RowKit Go.Shelf
attribute [local go_sem] Oper.semAt_some

theorem heights_any (B : Book) (ta : Option Addr) (tc : Nat) (sa : Option Addr) (sc m : Nat) (can : Option Addr) (cn cc : Nat) (hour f0 f1 : Int) (w : World) :
    Calls Tryd.prog 74 #[calcVal B ta tc sa sc m (.slice can cn cc), i64 hour, .agg #[i64 f0, i64 f1]] w fun e w' =>
      e = .returned (.func (.func 97) #[] #[.pointer (some ⟨w.heap.size, 0, none⟩), .pointer (some ⟨w.heap.size + 1, 0, none⟩), .pointer (some ⟨w.heap.size + 2, 0, none⟩)]) ∧
      ((w.alloc (.cells (calcCells B ta tc sa sc m (.slice can cn cc)) 93)).alloc (.cells #[i64 hour] 3)).alloc (.cells #[i64 f0, i64 f1] 99) = w' := by
  go_enter Tryd.func74, Tryd.ntmps74
  go_wp2
  go_ret
  exact ⟨rfl, rfl⟩
/-- The heights of a span with which all soundings of the hour are right. -/
def preL (s : Span) (D : Int → Int → List Int) (hour f0 f1 : Int) (k : Nat) : List Int := ((List.range k).map fun (n : Nat) => s.lo + (n : Int)).filter fun h => rightB D hour h f0 f1
def hList (s : Span) (D : Int → Int → List Int) (hour f0 f1 : Int) : List Int := preL s D hour f0 f1 (s.hi - s.lo + 1).toNat
theorem preL_succ (s : Span) (D hour f0 f1) (k : Nat) : preL s D hour f0 f1 (k + 1) = preL s D hour f0 f1 k ++ (if rightB D hour (s.lo + k) f0 f1 then [s.lo + k] else []) := by
  simp only [preL, List.range_succ, List.map_append, List.filter_append, List.map_cons, List.map_nil, List.filter_cons, List.filter_nil]
theorem preL_prefix (s : Span) (D hour f0 f1) (k d : Nat) : preL s D hour f0 f1 k <+: preL s D hour f0 f1 (k + d) := by
  induction d with
  | zero => exact List.prefix_refl _
  | succ d ih => rw [← Nat.add_assoc, preL_succ]; exact ih.trans (List.prefix_append _ _)

/-- What the body of a round must keep: what lay below nA; block bH; all cells that are no whole numbers and no slice of such. -/
structure Kp (nA bH : Nat) (W W' : World) : Prop where
  size : W.heap.size ≤ W'.heap.size
  old : ∀ k, k < nA → W'.heap[k]? = W.heap[k]?
  keep : ∀ k c t z, W.heap[k]? = some (.cells c t z) → (k = bH ∨ (t ≠ 3 ∧ t ≠ 40)) → W'.heap[k]? = some (.cells c t z)
theorem Kp.refl (nA bH : Nat) (W : World) : Kp nA bH W W := ⟨Nat.le_refl _, fun _ _ => rfl, fun _ _ _ _ h _ => h⟩
theorem Kp.trans {nA bH : Nat} {A B C : World} (h : Kp nA bH A B) (k : Kp nA bH B C) : Kp nA bH A C :=
  ⟨Nat.le_trans h.size k.size, fun i hi => (k.old i hi).trans (h.old i hi), fun i c t z hi ht => k.keep i c t z (h.keep i c t z hi ht) ht⟩
theorem Kp.of_below {nA bH : Nat} {W W' : World} (h : Below W.heap.size W W') (hn : nA ≤ W.heap.size) : Kp nA bH W W' :=
  ⟨h.size, fun k hk => h.block k (by omega), fun k c t z hk _ => (h.block k (Array.getElem?_eq_some_iff.1 hk).1).trans hk⟩
theorem Kp.b {nA bH : Nat} {w : World} (hn : nA ≤ w.heap.size) (W : World) (l : Nat) (o o' : Obj) (hl : w.heap.size ≤ l) (h : W.heap[l]? = some o) (ho : o.isCells = false) (_ : o.isWalk = false) : Kp nA bH W (W.putObj l o') :=
  ⟨by simp, fun k hk => World.putObj_heap_other (by omega), fun k c t z hk _ => (World.putObj_heap_other (fun e => by subst e; rw [h] at hk; cases hk; cases ho)).trans hk⟩
theorem Kp.same {nA bH : Nat} {W W' : World} (h : Kp nA bH W W') : Same nA W W' := ⟨h.size, h.old⟩

/-- What the iterator's boxes hold, and what it reads. -/
structure HF (nA b0 : Nat) (B : Book) (tb tq : Nat) (ta : Option Addr) (tc : Nat) (sa : Option Addr) (sc m : Nat) (can : Option Addr) (cn cc : Nat) (D : Int → Int → List Int) (hour f0 f1 : Int) (W : World) : Prop where
  na : nA ≤ b0
  c0 : W.heap[b0]? = some (.cells (calcCells B ta tc sa sc m (.slice can cn cc)) 93 (0, 0))
  c1 : W.heap[b0 + 1]? = some (.cells #[i64 hour] 3 (0, 0))
  c2 : W.heap[b0 + 2]? = some (.cells #[i64 f0, i64 f1] 99 (0, 0))
  tides : SpansAt nA W tb tq ta B.tides
  map : MapIn nA W m D
theorem HF.kept {nA b0 : Nat} {B : Book} {tb tq : Nat} {ta : Option Addr} {tc : Nat} {sa : Option Addr} {sc m : Nat} {can : Option Addr} {cn cc : Nat} {D : Int → Int → List Int} {hour f0 f1 : Int} {W W' : World}
    (h : HF nA b0 B tb tq ta tc sa sc m can cn cc D hour f0 f1 W) (k : Kp nA (b0 + 1) W W') : HF nA b0 B tb tq ta tc sa sc m can cn cc D hour f0 f1 W' :=
  ⟨h.na, k.keep _ _ _ _ h.c0 (.inr (by decide)), k.keep _ _ _ _ h.c1 (.inl rfl), k.keep _ _ _ _ h.c2 (.inr (by decide)), h.tides.same k.same, h.map.same k.same⟩
theorem HF.lt {nA b0 : Nat} {B : Book} {tb tq : Nat} {ta : Option Addr} {tc : Nat} {sa : Option Addr} {sc m : Nat} {can : Option Addr} {cn cc : Nat} {D : Int → Int → List Int} {hour f0 f1 : Int} {W : World}
    (h : HF nA b0 B tb tq ta tc sa sc m can cn cc D hour f0 f1 W) : b0 + 2 < W.heap.size := (Array.getElem?_eq_some_iff.1 h.c2).1
theorem cells_of {W : World} {b : Nat} {c : Array Value} {t : TypeId} {z : Nat × Nat} (h : W.heap[b]? = some (.cells c t z)) (j : Nat) : W.cell? ⟨b, j, none⟩ = c[j]? := cell_of_row W b j c t z h

set_option maxRecDepth 100000 in
set_option maxHeartbeats 1000000 in
theorem heights1_in (n : Nat) (hn : 1 ≤ n) (l nA b0 : Nat) (B : Book) (tb tq : Nat) (ta : Option Addr) (tc : Nat) (sa : Option Addr) (sc m : Nat) (can : Option Addr) (cn cc : Nat) (D : Int → Int → List Int) (hr : Nat) (hlt : hr < B.tides.length) (f0 f1 : Int)
    (hlo : -100 ≤ B.tides[hr].lo) (hsp : B.tides[hr].lo ≤ B.tides[hr].hi) (hhi : B.tides[hr].hi ≤ 100) (h3 : -100 ≤ f0) (h4 : f0 ≤ 100) (h5 : -100 ≤ f1) (h6 : f1 ≤ 100)
    (W : World) (J Jx : List Int → World → Prop) (hJ : AbidesFrom W.heap.size J)
    (hY : ∀ pre x W1, J pre W1 → pre.length < (hList B.tides[hr] D hr f0 f1).length → -100 ≤ x ∧ x ≤ 100 → YieldAt Fence.wide (n - 1) Tryd.prog l #[i64 x] W1 fun e W' =>
      (e = .returned (.bool true) ∧ J (pre ++ [x]) W' ∧ Kp nA (b0 + 1) W1 W') ∨ (e = .returned (.bool false) ∧ Jx (pre ++ [x]) W'))
    (hF : HF nA b0 B tb tq ta tc sa sc m can cn cc D hr f0 f1 W) (h0 : J [] W) :
    CallsIn Fence.wide n Tryd.prog 97 #[.func (.yield l) #[] #[], .pointer (some ⟨b0, 0, none⟩), .pointer (some ⟨b0 + 1, 0, none⟩), .pointer (some ⟨b0 + 2, 0, none⟩)] W fun e W' => (∃ v, e = .returned v) ∧
      ((∃ ys, ys = hList B.tides[hr] D hr f0 f1 ∧ J ys W') ∨ (∃ pre, pre <+: hList B.tides[hr] D hr f0 f1 ∧ Jx pre W')) := by
  refine callsIn_of_wp Tryd.func97 rfl trivial ?_ rfl
  simp only [Tryd.ntmps97, List.size_toArray, List.length_cons, List.length_nil, Nat.reduceAdd, Nat.reduceSub, Array.replicate_succ, Array.replicate_zero, List.push_toArray, List.append_toArray, List.nil_append, List.cons_append]
  have hx0 := cells_of hF.c0
  have hx1 := cells_of hF.c1
  have hx2 := cells_of hF.c2
  have ht1 := hF.tides.len
  have hidx := idx22 (n := B.tides.length) (c := tc) (k := hr) W (hF.tides.at_ (ne_nil_of_lt hlt)) hlt
  have hlo' := hF.tides.lo hr hlt
  have hhi' := hF.tides.hi hr hlt
  have hmf : ∀ (fn : Fn) (first cap : Array Value) (w : World), (Instr.makeFunc fn first cap).run Tryd.prog w = .ok (.func fn first cap) w := fun _ _ _ _ => rfl
  have hb2 := hF.lt
  have hb1 : b0 + 1 < W.heap.size := by omega
  have hb0 : b0 < W.heap.size := by omega
  have hS0 : (W.alloc (.cells #[i64 B.tides[hr].lo, i64 B.tides[hr].hi] 24)).heap[W.heap.size]? = some (.cells #[i64 B.tides[hr].lo, i64 B.tides[hr].hi] 24 (0, 0)) := heap_alloc_new W _
  have hF0 := hF.kept (Kp.of_below ((Below.refl W.heap.size W).alloc (Nat.le_refl _) (.cells #[i64 B.tides[hr].lo, i64 B.tides[hr].hi] 24)) (by have := hF.lt; have := hF.na; omega))
  have hJ0 := hJ _ _ _ none h0 (World.grownBy_alloc W (.cells #[i64 B.tides[hr].lo, i64 B.tides[hr].hi] 24) none) (fun r e => by cases e)
  refine wpIn_wide.2 (wp_scope_straight ((wpIn_wide (n := n)).1 ?_))
  gi_wp2_with (refine wpIn_label ?_)
  gi_loopw [22] (fun i wr => ∃ k : Nat, k ≤ (B.tides[hr].hi - B.tides[hr].lo + 1).toNat ∧ i = .int .i64 k ∧ HF nA b0 B tb tq ta tc sa sc m can cn cc D hr f0 f1 wr ∧ W.heap.size < wr.heap.size ∧ wr.heap[W.heap.size]? = some (.cells #[i64 B.tides[hr].lo, i64 B.tides[hr].hi] 24 (0, 0)) ∧ J (preL B.tides[hr] D hr f0 f1 k) wr)
    (fun i _ => (B.tides[hr].hi - B.tides[hr].lo + 1).toNat - (intOf i).toNat)
  case atStart => exact ⟨0, Nat.zero_le _, rfl, hF0, by simp, hS0, hJ0⟩
  case round =>
    clear hx0 hx1 hx2 hidx hlo' hhi' hF0 hS0 hJ0
    obtain ⟨k, hk, rfl, hF1, hz, hS1, hJ1⟩ := hrel
    have hx0 := cells_of hF1.c0
    have hx1 := cells_of hF1.c1
    have hx2 := cells_of hF1.c2
    have hxs := cells_of hS1
    by_cases hkl : k < (B.tides[hr].hi - B.tides[hr].lo + 1).toNat
    · have hkl' : (k : Int) < B.tides[hr].hi - B.tides[hr].lo + 1 := by omega
      have hstep := Lib.hid (preL_succ B.tides[hr] D hr f0 f1 k)
      have hpre := Lib.hid (preL_prefix B.tides[hr] D hr f0 f1 (k + 1) ((B.tides[hr].hi - B.tides[hr].lo + 1).toNat - (k + 1)))
      have hwr := hF1.lt
      have hna := hF1.na
      have hbx0 : b0 < wr.heap.size := by omega
      have hbx1 : b0 + 1 < wr.heap.size := by omega
      cases hrt : rightB D hr (B.tides[hr].lo + (k : Int)) f0 f1
      · have hrt := Lib.hid hrt
        have heq : Hid (preL B.tides[hr] D hr f0 f1 (k + 1) = preL B.tides[hr] D hr f0 f1 k) := by
          show _ = _
          rw [hstep.out, hrt.out]; simp
        gi_wp2_with (refine ⟨trivial, ?_⟩; gi_at_call 98; refine (CallsIn.mono (callsIn_wide.2 (right_any B ta tc sa sc m can cn cc D _ _ _ _ nA _ hF1.map (by omega) (by omega) (by omega) (by omega) (by omega) (by omega) (by omega))) ?_); rintro e w' ⟨rfl, hb⟩; rw [hrt.out]; have hF2 := hF1.kept (Kp.of_below hb (by omega)); have hS2 := (hb.block _ hz).trans hS1; have hz2 : W.heap.size < w'.heap.size := Nat.lt_of_lt_of_le hz hb.size; have hx20 := cells_of hF2.c0; have hx21 := cells_of hF2.c1; have hx22 := cells_of hF2.c2; have hx2s := cells_of hS2; have hJ2 := hJ _ _ _ none hJ1 ⟨hb.os, hb.tape, hb.output, hb.size, fun i hi _ => hb.block i hi⟩ (fun r e => by cases e))
        go_roundw
        case rel => exact ⟨k + 1, by omega, by go_num, by assumption, by assumption, by assumption, by rw [heq.out]; assumption⟩
        case measure => simp [intOf]; omega
      · have hrt := Lib.hid hrt
        have heq : Hid (preL B.tides[hr] D hr f0 f1 (k + 1) = preL B.tides[hr] D hr f0 f1 k ++ [B.tides[hr].lo + (k : Int)]) := by
          show _ = _
          rw [hstep.out, hrt.out]; simp
        have hpl : Hid (preL B.tides[hr] D hr f0 f1 k ++ [B.tides[hr].lo + (k : Int)] <+: hList B.tides[hr] D hr f0 f1) := by
          show _ <+: _
          rw [← heq.out]
          have := hpre.out
          rwa [show k + 1 + ((B.tides[hr].hi - B.tides[hr].lo + 1).toNat - (k + 1)) = (B.tides[hr].hi - B.tides[hr].lo + 1).toNat by omega] at this
        have hlen : (preL B.tides[hr] D hr f0 f1 k).length < (hList B.tides[hr] D hr f0 f1).length := by
          have := hpl.out.length_le
          simp at this; omega
        gi_wp2_with (refine ⟨trivial, ?_⟩; gi_at_call 98; refine (CallsIn.mono (callsIn_wide.2 (right_any B ta tc sa sc m can cn cc D _ _ _ _ nA _ hF1.map (by omega) (by omega) (by omega) (by omega) (by omega) (by omega) (by omega))) ?_); rintro e w' ⟨rfl, hb⟩; rw [hrt.out]; have hF2 := hF1.kept (Kp.of_below hb (by omega)); have hS2 := (hb.block _ hz).trans hS1; have hz2 : W.heap.size < w'.heap.size := Nat.lt_of_lt_of_le hz hb.size; have hx20 := cells_of hF2.c0; have hx21 := cells_of hF2.c1; have hx22 := cells_of hF2.c2; have hx2s := cells_of hS2; have hJ2 := hJ _ _ _ none hJ1 ⟨hb.os, hb.tape, hb.output, hb.size, fun i hi _ => hb.block i hi⟩ (fun r e => by cases e); obtain ⟨fn, tmps, assign, body, hy, hR⟩ := hY _ (B.tides[hr].lo + (k : Int)) _ hJ2 hlen ⟨by omega, by omega⟩; have hR := Lib.hid hR)
        refine Hid.out (by assumption : Hid (RoundIn _ _ _ _ _ _ _ _ _ _)) |>.mono ?_
        rintro e W3 (⟨rfl, hJ3, hk3⟩ | ⟨rfl, hJx3⟩)
        · gi_wp2_with fail
          go_roundw
          case rel => exact ⟨k + 1, by omega, by go_num, HF.kept (by assumption) hk3, Nat.lt_of_lt_of_le (by assumption) hk3.size, hk3.keep _ _ _ _ (by assumption) (.inr (by decide)), by rw [heq.out]; exact hJ3⟩
          case measure => simp [intOf]; omega
        · gi_wp2_with fail
          try rw [Exit.noGoto_ret]
          refine bodyPost_ret (results_none rfl _ _ _) rfl ?_
          exact ⟨⟨_, rfl⟩, .inr ⟨_, hpl.out, hJx3⟩⟩
    · have hk' : k = (B.tides[hr].hi - B.tides[hr].lo + 1).toNat := by omega
      have hkl' : ¬ (k : Int) < B.tides[hr].hi - B.tides[hr].lo + 1 := by omega
      have hfin : Hid (J (hList B.tides[hr] D hr f0 f1) wr) := by
        show J _ _
        rw [← show preL B.tides[hr] D hr f0 f1 k = hList B.tides[hr] D hr f0 f1 by rw [hk']; rfl]
        exact hJ1
      clear hk'
      gi_wp2_with fail
      go_end0
      exact ⟨⟨_, rfl⟩, .inl hfin.out⟩
end Go.Proofs.YtkbmpkdflgimmaaDoor
/- The contract of (book).some: whether an hour has a height, with some bottoms. -/
namespace Go.Proofs.YtkbmpkdflgimmaaDoor
open Go.RowKit Go.Shelf
attribute [local go_sem] Oper.semAt_some

structure HourOk (B : Book) (hr : Nat) : Prop where
  lt : hr < B.tides.length
  lo : -100 ≤ B.tides[hr].lo
  sp : B.tides[hr].lo ≤ B.tides[hr].hi
  hi : B.tides[hr].hi ≤ 100

/-- The heights that there are. -/
abbrev HInt : Type := { x : Int // -100 ≤ x ∧ x ≤ 100 }
theorem heights_stops (n : Nat) (hn : 1 ≤ n) (nA b0 : Nat) (B : Book) (tb tq : Nat) (ta : Option Addr) (tc : Nat) (sa : Option Addr) (sc m : Nat) (can : Option Addr) (cn cc : Nat) (D : Int → Int → List Int) (hr : Nat) (hh : HourOk B hr) (f0 f1 : Int)
    (h3 : -100 ≤ f0) (h4 : f0 ≤ 100) (h5 : -100 ≤ f1) (h6 : f1 ≤ 100) (w : World) (hF : HF nA b0 B tb tq ta tc sa sc m can cn cc D hr f0 f1 w) :
    SeqStopsK Fence.wide n Tryd.prog 97 #[.pointer (some ⟨b0, 0, none⟩), .pointer (some ⟨b0 + 1, 0, none⟩), .pointer (some ⟨b0 + 2, 0, none⟩)] (fun x : HInt => #[i64 x.1]) (Kp nA (b0 + 1))
      (fun ys => ys.map (·.1) = hList (B.tides[hr]'hh.lt) D hr f0 f1) (fun pre => pre.map (·.1) <+: hList (B.tides[hr]'hh.lt) D hr f0 f1) (hList (B.tides[hr]'hh.lt) D hr f0 f1).length w := by
  intro l J Jx W hW hJ _ hY h0
  refine (heights1_in n hn l nA b0 B tb tq ta tc sa sc m can cn cc D hr hh.lt f0 f1 hh.lo hh.sp hh.hi h3 h4 h5 h6 W (fun p W => ∃ p' : List HInt, p'.map (·.1) = p ∧ J p' W) (fun p W => ∃ p' : List HInt, p'.map (·.1) = p ∧ Jx p' W)
    ?_ ?_ (hF.kept (Kp.of_below hW (by have := hF.lt; have := hF.na; omega))) ⟨[], rfl, h0⟩).mono ?_
  · rintro s A B' row ⟨p', e, hs⟩ hg hr
    exact ⟨p', e, hJ p' A B' row hs hg hr⟩
  · rintro pre x W1 ⟨p', e, hs⟩ hlen hx
    have := hY p' ⟨x, hx⟩ W1 hs (by rw [← e] at hlen; simpa using hlen)
    refine YieldAt.mono this ?_
    rintro e' W' (⟨h1, h2, h3⟩ | ⟨h1, h2⟩)
    · exact .inl ⟨h1, ⟨p' ++ [⟨x, hx⟩], by simp [e], h2⟩, h3⟩
    · exact .inr ⟨h1, ⟨p' ++ [⟨x, hx⟩], by simp [e], h2⟩⟩
  · rintro e' W' ⟨hv, ⟨ys, hys, p', e, hJ'⟩ | ⟨pre, hp, p', e, hJ'⟩⟩
    · exact ⟨hv, .inl ⟨p', by show _ = _; rw [e, hys], hJ'⟩⟩
    · exact ⟨hv, .inr ⟨p', by show _ <+: _; rw [e]; exact hp, hJ'⟩⟩

theorem ownFrom_below {β : Type} {n : Nat} {w0 : World} {C : Nat} (hC : n ≤ C) : OwnFrom C (fun (_ : β) W => Below n w0 W ∧ C ≤ W.heap.size) :=
  fun _ _ _ _ hs hg hr => ⟨hs.1.grown hg (Nat.le_trans hC hs.2) (fun k e => Nat.le_trans hC (hr k e).1), Nat.le_trans hs.2 hg.size⟩

def HtPost (B : Book) (ta : Option Addr) (tc : Nat) (sa : Option Addr) (sc m : Nat) (can : Option Addr) (cn cc : Nat) (hour f0 f1 : Int) (w : World) (e : Ending) (w' : World) : Prop :=
  ∃ b0, w.heap.size ≤ b0 ∧ e = .returned (.func (.func 97) #[] #[.pointer (some ⟨b0, 0, none⟩), .pointer (some ⟨b0 + 1, 0, none⟩), .pointer (some ⟨b0 + 2, 0, none⟩)]) ∧ Below w.heap.size w w' ∧
    w'.heap[b0]? = some (.cells (calcCells B ta tc sa sc m (.slice can cn cc)) 93 (0, 0)) ∧ w'.heap[b0 + 1]? = some (.cells #[i64 hour] 3 (0, 0)) ∧ w'.heap[b0 + 2]? = some (.cells #[i64 f0, i64 f1] 99 (0, 0))
theorem heights_b (B : Book) (ta : Option Addr) (tc : Nat) (sa : Option Addr) (sc m : Nat) (can : Option Addr) (cn cc : Nat) (hour f0 f1 : Int) (w : World) :
    Calls Tryd.prog 74 #[calcVal B ta tc sa sc m (.slice can cn cc), i64 hour, .agg #[i64 f0, i64 f1]] w (HtPost B ta tc sa sc m can cn cc hour f0 f1 w) := by
  refine (heights_any B ta tc sa sc m can cn cc hour f0 f1 w).mono ?_
  rintro e w' ⟨rfl, rfl⟩
  refine ⟨w.heap.size, Nat.le_refl _, rfl, (((Below.refl _ w).alloc (Nat.le_refl _) _).alloc (by simp) _).alloc (by simp; omega) _, ?_, ?_, ?_⟩
  · rw [Below.heap_alloc _ _ _ (by simp; omega), Below.heap_alloc _ _ _ (by simp)]
    exact heap_alloc_new _ _
  · rw [Below.heap_alloc _ _ _ (by simp)]
    exact heap_alloc2_new _ _ _
  · have := heap_alloc2_new (w.alloc (.cells (calcCells B ta tc sa sc m (.slice can cn cc)) 93)) (.cells #[i64 hour] 3) (.cells #[i64 f0, i64 f1] 99)
    simpa using this
theorem Boxed.ownFrom {β : Type} (C B : Nat) (t : TypeId) (v : Value) : OwnFrom C (fun (_ : β) W => Boxed W B t v) :=
  fun _ _ _ _ hs hg hr => hs.kept hg (fun e => by obtain ⟨_, o, ho, hc⟩ := hr _ e.symm; rw [hs] at ho; cases ho; cases hc)

def SomePost (v : Bool) (w : World) (e : Ending) (w' : World) : Prop := e = .returned (.bool v) ∧ Below w.heap.size w w'
/-- What stands between two rounds, where a result lies in a box. -/
def Mid (v : Bool) (b n : Nat) (w : World) (C : Nat) (W : World) : Prop := Boxed W b 4 (.bool v) ∧ Below n w W ∧ C ≤ W.heap.size
theorem Mid.ownFrom {β : Type} (p : β → Prop) (v : Bool) {b n C : Nat} {w : World} (hC : n ≤ C) : OwnFrom C (fun s W => p s ∧ Mid v b n w C W) :=
  fun s W W' row hs hg hr => ⟨hs.1, Boxed.ownFrom C b 4 (.bool v) s W W' row hs.2.1 hg hr, ownFrom_below hC s W W' row hs.2.2 hg hr⟩
theorem Mid.store {v v' : Bool} {b n C : Nat} {w W : World} (h : Mid v b n w C W) (hb : n ≤ b) : Mid v' b n w C (W.setCell ⟨b, 0, none⟩ (.bool v')) :=
  ⟨h.1.set _, h.2.1.setCell (p := ⟨b, 0, none⟩) hb _, by simpa [World.setCell] using h.2.2⟩
theorem Mid.put {v : Bool} {b n C Dd : Nat} {w W : World} (h : Mid v b n w C W) (hb : b < C) (hn : n ≤ C) (hD : C ≤ Dd) (o : Obj) : Mid v b n w C (W.putObj Dd o) :=
  ⟨h.1.kept (grownBy_putObj' W Dd o) (fun e => by cases e; omega), h.2.1.grown (grownBy_putObj' W Dd o) (Nat.le_trans hn h.2.2) (fun k e => by cases e; omega), by simpa using h.2.2⟩
set_option maxRecDepth 100000 in
set_option maxHeartbeats 1000000 in
theorem some_in (n : Nat) (hn : 3 ≤ n) (nA : Nat) (B : Book) (tb tq : Nat) (ta : Option Addr) (tc : Nat) (sa : Option Addr) (sc m : Nat) (can : Option Addr) (cn cc : Nat) (D : Int → Int → List Int) (hr : Nat) (hh : HourOk B hr) (f0 f1 : Int)
    (h3 : -100 ≤ f0) (h4 : f0 ≤ 100) (h5 : -100 ≤ f1) (h6 : f1 ≤ 100) (w : World) (hna : nA ≤ w.heap.size) (hT : SpansAt nA w tb tq ta B.tides) (hM : MapIn nA w m D) :
    CallsIn Fence.wide n Tryd.prog 96 #[calcVal B ta tc sa sc m (.slice can cn cc), i64 hr, .agg #[i64 f0, i64 f1]] w (SomePost (!(hList (B.tides[hr]'hh.lt) D hr f0 f1).isEmpty) w) := by
  refine callsIn_of_wp_marks Tryd.func96 rfl trivial ?_ rfl
  simp only [Tryd.ntmps96, List.size_toArray, List.length_cons, List.length_nil, Nat.reduceAdd, Nat.reduceSub, Array.replicate_succ, Array.replicate_zero, List.push_toArray, List.append_toArray, List.nil_append, List.cons_append]
  have h1 : 1 ≤ n := by omega
  gi_wp2_with (refine ⟨trivial, ?_⟩; gi_at_call 74; refine (CallsIn.mono (callsIn_wide.2 (heights_b B ta tc sa sc m can cn cc _ _ _ _)) ?_); rintro e w' ⟨b0, hbe, rfl, hb1, g0, g1, g2⟩)
  have hsz : w.heap.size + 3 ≤ b0 := by simp at hbe; omega
  have hb0 : Below w.heap.size w w' := ((((Below.refl _ w).alloc (Nat.le_refl _) _).alloc (by simp) _).alloc (by simp; omega) _).trans (hb1.mono (by simp; omega))
  have hr0 : Boxed w' (w.heap.size + 1 + 1) 4 (.bool false) := by
    refine (hb1.block _ (by simp)).trans ?_
    have := heap_alloc_new ((w.alloc (.cells (calcCells B ta tc sa sc m (.slice can cn cc)) 93)).alloc (.cells #[i64 f0, i64 f1] 99)) (.cells #[.bool false] 4)
    simpa using this
  have hlt2 : b0 + 2 < w'.heap.size := (Array.getElem?_eq_some_iff.1 g2).1
  have hF : HF nA b0 B tb tq ta tc sa sc m can cn cc D hr f0 f1 w' := ⟨by omega, g0, g1, g2, hT.same ((Same.of_below hb0).mono hna), hM.same ((Same.of_below hb0).mono hna)⟩
  clear hb1 g0 g1 g2 hbe
  refine wpIn_rangeFunc_ownG rfl h1 (gf := 97) (lb := #[.pointer (some ⟨b0, 0, none⟩), .pointer (some ⟨b0 + 1, 0, none⟩), .pointer (some ⟨b0 + 2, 0, none⟩)]) rfl trivial (enters_of Tryd.func97 (by kernel_rfl) rfl)
    (heights_stops (n - 1) (by omega) nA b0 B tb tq ta tc sa sc m can cn cc D hr hh f0 f1 h3 h4 h5 h6 w' hF) (fun h k => Kp.trans h k) (Kp.b (by omega)) (Below.refl _ _) (fun _ => rfl)
    (fun pre W => pre = [] ∧ Mid false (w.heap.size + 1 + 1) w.heap.size w w'.heap.size W)
    (fun c pre W => (c = .ret ∧ pre ≠ []) ∧ Mid true (w.heap.size + 1 + 1) w.heap.size w w'.heap.size W)
    (Mid.ownFrom _ _ hb0.size) (fun c => Mid.ownFrom _ _ hb0.size) ⟨rfl, hr0, hb0, Nat.le_refl _⟩ ?a1 ?assign ?body ?done ?stop
  case assign =>
    intro l x W K hK
    gi_wp2
    exact hK
  case body =>
    rintro l pre x W ⟨rfl, hM⟩ _
    have hc := hM.1.cell
    have hf := hM.1.frozen
    gi_wp2
    exact ⟨(KeepsOthers.setCell _ _ _).from _, ⟨rfl, by simp⟩, hM.store (by omega)⟩
  case done =>
    rintro Dd xs W hD hxs ⟨rfl, hM⟩ hK
    have hM' := Lib.hid (hM.store (v' := false) (by omega))
    have hc := hM.1.cell
    have hf := hM.1.frozen
    clear hM
    gi_wp2
    have hK' := (KeepsOthers.setCell W ⟨w.heap.size + 1 + 1, 0, none⟩ (.bool false)).same Dd _ hK rfl
    have hM2 := hM'.out.put (by omega) hb0.size hD (.deferred none)
    refine ⟨by simp, .inl ⟨_, _, rfl, run_takeDeferred hK', ?_⟩⟩
    have hc5 := hM2.1.cell
    refine ⟨.bool false, ?_, ?_, hM2.2.1⟩
    · simp [results, Tryd.f96, go_sem, hc5]
    · rw [← hxs]; rfl
  case stop =>
    rintro Dd c pre W hD hpre ⟨⟨rfl, hne⟩, hM⟩ hK
    gi_wp2
    have hM2 := hM.put (by omega) hb0.size hD (.deferred none)
    refine ⟨by simp, .inl ⟨_, _, rfl, run_takeDeferred hK, ?_⟩⟩
    have hc5 := hM2.1.cell
    refine ⟨.bool true, ?_, ?_, hM2.2.1⟩
    · simp [results, Tryd.f96, go_sem, hc5]
    · have : (hList (B.tides[hr]'hh.lt) D hr f0 f1).isEmpty = false := by
        cases h : hList (B.tides[hr]'hh.lt) D hr f0 f1 with
        | nil => rw [h] at hpre; exact absurd (List.map_eq_nil_iff.1 (List.prefix_nil.1 hpre)) hne
        | cons x l => rfl
      rw [this]; rfl
end Go.Proofs.YtkbmpkdflgimmaaDoor
/- Regions that draw their order, in a round of a range over a function, walked once under a class of worlds; and the marks that ranges over functions leave behind. -/
namespace Go.Proofs.YtkbmpkdflgimmaaDoor
open Go.RowKit Go.Shelf
section
variable {F : Fence} {n : Nat} {P : Program} {ops : Array Oper} {md : Region.Mode} {C : World → Prop}
def noDefer (ops : Array Oper) : Bool := ops.all fun o => match o.op with | .defer _ => false | _ => true
theorem noDefer_spec (h : noDefer ops = true) {i : Nat} {o : Oper} (hi : ops[i]? = some o) : ∀ c, o.op ≠ .defer c := by
  intro c hc
  unfold noDefer at h
  rw [Array.all_eq_true] at h
  obtain ⟨hlt, he⟩ := Array.getElem?_eq_some_iff.1 hi
  have := h i hlt
  rw [he, hc] at this
  simp at this
theorem wpIn_of_quietR {o : Oper} {a : Act} {K : Act → Prop} {K' : Act → World → Prop} {Q' : Exit → Act → World → Prop} {w : World} (hnd : ∀ c, o.op ≠ .defer c) (hw : C w) (h : ∀ a w', C w' → K a → K' a w')
    (ha : o.askedIn F P a C) (hh : o.quietIn F n P a C K) : o.wpIn F n P a w K' Q' := by
  obtain ⟨v, h1, h2⟩ := hh
  have h3 := h1 w hw
  unfold Oper.quietAtIn at h3
  unfold Oper.wpIn
  refine ⟨ha w hw, ?_⟩
  rw [Oper.semAt_plain F _ _ hnd]
  generalize (execOp a.eval o).run P w = r at *
  cases r with
  | ok x w' =>
    cases x <;> simp only [Oper.quietUponIn] at h3 <;> simp only [Oper.uponIn]
    case value u =>
      obtain ⟨e1, e2⟩ := h3
      rw [e1, e2]
      exact h _ _ hw h2
    case skip =>
      obtain ⟨e1, e2⟩ := h3
      rw [e1, ← e2]
      exact h _ _ hw h2
    case enter f args =>
      obtain ⟨e1, hd, hc⟩ := h3
      rw [e1]
      exact ⟨hd, hc.mono fun e w'' ⟨he, hw''⟩ => by subst he; exact h _ _ hw'' h2⟩
  | halt x w' => simp only [Oper.quietUponIn] at h3
theorem wpOpIn_of_qOpInR {i : Nat} {a : Act} {K : Act → Prop} {K' : Act → World → Prop} {Q' : Exit → Act → World → Prop} {w : World} (hnd : noDefer ops = true) (hC : C w) (h : ∀ a w', C w' → K a → K' a w')
    (hh : qOpIn F n P ops C i K a) : wpOpIn F n P ops Q' i K' a w := by
  unfold qOpIn at hh
  unfold wpOpIn
  split
  · rename_i ho; simp only [ho] at hh; exact h _ _ hC hh
  · rename_i o ho
    simp only [ho] at hh
    obtain ⟨ha, hh⟩ := hh
    split
    · rename_i hw; simp only [hw, if_true] at hh; exact wpIn_of_quietR (noDefer_spec hnd ho) hC h ha hh
    · rename_i hw; simp only [hw] at hh; exact ⟨ha w hC, h _ _ hC hh⟩
theorem wpAnyIn_of_quietR {Q : Act → Prop} {Q' : Exit → Act → World → Prop} (hnd : noDefer ops = true) (hQ : ∀ a w, C w → Q a → Q' .normal a w) : ∀ (fuel : Nat) (listed : Array Bool) (a : Act) (w : World), C w →
    wpAnyQIn F n P md ops C Q fuel listed a → wpAnyIn F n P md ops Q' fuel listed a w
  | 0, _, _, _, hw, h => ⟨h.1, hQ _ _ hw h.2⟩
  | fuel + 1, _, _, _, hw, h => ⟨fun h0 => hQ _ _ hw (h.1 h0), fun i hi => wpOpIn_of_qOpInR hnd hw (fun a' w' hw' => wpAnyIn_of_quietR hnd hQ fuel _ a' w' hw') (h.2 i hi)⟩
/-- A region that draws its order, walked in the order of the text, in a round. -/
theorem qr_region {id : Nat} {Q : Exit → Act → World → Prop} {a : Act} {w : World} {l : List Oper} (C : World → Prop) (hnd : noDefer l.toArray = true) (hm : P.follows .mixedOrders = true) (hB : Region.lexB .any l.toArray = true)
    (hC : ∀ n, C { w with drawn := n }) (h : wpQuietIn F n P l.toArray C (fun a' => ∀ w', C w' → Q .normal a' w') l a) : (Code.region id l.toArray true).wpIn F n P Q a w := by
  simp only [Region.lexB, Bool.and_eq_true] at hB
  refine wpIn_region_any hm (wpAnyIn_of_quietR (Q := fun a' => ∀ w', C w' → Q .normal a' w') hnd (fun _ w' hw' h => h w' hw') _ _ _ _ (hC _) ?_)
  have := wpAnyQIn_lex (F := F) (n := n) (C := C) (md := .any) hB.1 l 0 (Array.replicate l.toArray.size false) a (by simp) (by simpa using hB.2) h
  simpa using this
end
section
variable {l n : Nat} {P : Program} {C : World → Prop} {K : Act → Prop} {a : Act} {ops : Array Oper} {o : Oper} {rest : List Oper}
theorem qr_val (hw : Region.wanted o (yielded ops a.tmps) = true) (h : ∃ v, (∀ w, C w → (execOp a.eval o).run P w = .ok (.value v) w) ∧ wpQuietIn (Fence.wide.inRound l) n P ops C K rest (a.put o.dst v)) :
    wpQuietIn (Fence.wide.inRound l) n P ops C K (o :: rest) a := by
  obtain ⟨v, h1, h2⟩ := h
  refine ⟨fun _ _ _ _ => trivial, ?_⟩
  simp only [hw, if_true]
  exact ⟨v, fun w hC => by simp [Oper.quietAtIn, h1 w hC, Oper.quietUponIn], h2⟩
theorem qr_call (hw : Region.wanted o (yielded ops a.tmps) = true) (v : Value) (f : FuncId) (args : Array Value) (h : ∀ w, C w → (execOp a.eval o).run P w = .ok (.enter f args) w)
    (hc : ∀ w, C w → Calls P f args w fun e w' => e = .returned v ∧ C w') (hn : wpQuietIn (Fence.wide.inRound l) n P ops C K rest (a.put o.dst v)) : wpQuietIn (Fence.wide.inRound l) n P ops C K (o :: rest) a := by
  refine ⟨fun _ _ _ _ => trivial, ?_⟩
  simp only [hw, if_true]
  exact ⟨v, fun w hC => by
    simp only [Oper.quietAtIn, h w hC, Oper.quietUponIn]
    exact ⟨trivial, fun hd => by simp [Fence.inRound, Fence.wide] at hd, CallsIn.inRound l (callsIn_wide.2 (hc w hC))⟩, hn⟩
end

/-- The mark of a range over a function, among the deferred calls. -/
abbrev mark (D : Nat) : Deferred := { target := .collected D, args := #[] }
structure Marks (n : Nat) (Ds : List Nat) (W : World) : Prop where
  nodup : Ds.Nodup
  at_ : ∀ D ∈ Ds, n ≤ D ∧ W.heap[D]? = some (.deferred (some []))
theorem Marks.nil (n : Nat) (W : World) : Marks n [] W := ⟨List.nodup_nil, fun _ h => by cases h⟩
theorem Marks.more {n : Nat} {Ds : List Nat} {W W' : World} (h : Marks n Ds W) (hb : Below W.heap.size W W') : Marks n Ds W' :=
  ⟨h.nodup, fun D hD => ⟨(h.at_ D hD).1, (hb.block D (Array.getElem?_eq_some_iff.1 (h.at_ D hD).2).1).trans (h.at_ D hD).2⟩⟩
theorem Marks.cons {n D C : Nat} {Ds : List Nat} {W W' : World} (h : Marks n Ds W) (hC : C = W.heap.size) (hb : ∀ k, k < C → W.heap[k]?= some (.deferred (some [])) → W'.heap[k]? = some (.deferred (some []))) (hn : n ≤ C) (hD : C ≤ D) (hk : W'.heap[D]? = some (.deferred (some []))) : Marks n (D :: Ds) W' := by
  subst hC
  have hlt : ∀ d ∈ Ds, d < W.heap.size := fun d hd => (Array.getElem?_eq_some_iff.1 (h.at_ d hd).2).1
  refine ⟨List.nodup_cons.2 ⟨fun hd => ?_, h.nodup⟩, fun d hd => ?_⟩
  · have := hlt D hd; omega
  · rcases List.mem_cons.1 hd with rfl | hd
    · exact ⟨by omega, hk⟩
    · exact ⟨(h.at_ d hd).1, hb d (hlt d hd) (h.at_ d hd).2⟩
/-- What the marks' taking leaves as it was. -/
structure Shut (n : Nat) (W W' : World) : Prop where
  os : W'.os = W.os
  tape : W'.tape = W.tape
  output : W'.output = W.output
  size : W'.heap.size = W.heap.size
  old : ∀ k, k < n → W'.heap[k]? = W.heap[k]?
  kept : ∀ (k : Nat) c t z, W.heap[k]? = some (Obj.cells c t z) → W'.heap[k]? = some (Obj.cells c t z)
theorem Shut.below {n m : Nat} {w W W' : World} (h : Shut n W W') (hm : m ≤ n) (hb : Below m w W) : Below m w W' :=
  ⟨h.os.trans hb.os, h.tape.trans hb.tape, h.output.trans hb.output, by rw [h.size]; exact hb.size, fun k hk => (h.old k (by omega)).trans (hb.block k hk)⟩
/-- At a function's end the marks are taken, and then the results go. -/
theorem leaves_marks {P : Program} {F : Fence} {m : Nat} {fn : Func} {tmps : Array Value} {R : Ending → World → Prop} {n : Nat} : ∀ (Ds : List Nat) (W : World), Marks n Ds W →
    (∀ W', Shut n W W' → LeavesIn F m P fn tmps R [] .returning W') → LeavesInM F m P fn tmps R (Ds.map mark) .returning W
  | [], W, _, h => h W ⟨rfl, rfl, rfl, rfl, fun _ _ => rfl, fun _ _ _ _ h => h⟩
  | D :: Ds, W, hM, h => by
    refine ⟨by simp, .inl ⟨D, _, rfl, run_takeDeferred (hM.at_ D (List.mem_cons_self ..)).2, ?_⟩⟩
    have hnd := List.nodup_cons.1 hM.nodup
    have hD := hM.at_ D (List.mem_cons_self ..)
    refine leaves_marks Ds _ ⟨hnd.2, fun d hd => ⟨(hM.at_ d (List.mem_cons_of_mem _ hd)).1, (World.putObj_heap_other (fun e => hnd.1 (by rw [← e]; exact hd))).trans (hM.at_ d (List.mem_cons_of_mem _ hd)).2⟩⟩ (fun W' hs => h W' ?_)
    refine ⟨hs.os, hs.tape, hs.output, by rw [hs.size]; simp, fun k hk => (hs.old k hk).trans (World.putObj_heap_other (by omega)), fun k c t z hk => hs.kept k c t z ?_⟩
    refine (World.putObj_heap_other (fun e => ?_)).trans hk
    subst e
    rw [hD.2] at hk
    cases hk
end Go.Proofs.YtkbmpkdflgimmaaDoor
/- The contract of (book).lands. -/
namespace Go.Proofs.YtkbmpkdflgimmaaDoor
open Go.RowKit

theorem high1_any (a b : Int) (w : World) : Calls Tryd.prog 106 #[.agg #[i64 a, i64 b]] w fun e w' => e = .returned (i64 b) ∧ Below w.heap.size w w' := by
  go_enter Tryd.func106, Tryd.ntmps106
  go_wp2
  go_ret
  exact ⟨rfl, (Below.refl _ _).alloc (Nat.le_refl _) _⟩
theorem low1_any (a b : Int) (w : World) : Calls Tryd.prog 125 #[.agg #[i64 a, i64 b]] w fun e w' => e = .returned (i64 a) ∧ Below w.heap.size w w' := by
  go_enter Tryd.func125, Tryd.ntmps125
  go_wp2
  go_ret
  exact ⟨rfl, (Below.refl _ _).alloc (Nat.le_refl _) _⟩
theorem high_any (w : World) : Calls Tryd.prog 102 #[] w fun e w' => e = .returned (.agg #[.func (.func 106) #[] #[]]) ∧ Below w.heap.size w w' := by
  go_enter Tryd.func102, Tryd.ntmps102
  go_wp2
  refine bodyPost_ret (v := .agg #[.func (.func 106) #[] #[]]) (by simp [results, Tryd.f102, go_sem]) rfl ⟨rfl, ?_⟩
  exact (Below.refl _ _).alloc (Nat.le_refl _) _
theorem low_any (w : World) : Calls Tryd.prog 124 #[] w fun e w' => e = .returned (.agg #[.func (.func 125) #[] #[]]) ∧ Below w.heap.size w w' := by
  go_enter Tryd.func124, Tryd.ntmps124
  go_wp2
  refine bodyPost_ret (v := .agg #[.func (.func 125) #[] #[]]) (by simp [results, Tryd.f124, go_sem]) rfl ⟨rfl, ?_⟩
  exact (Below.refl _ _).alloc (Nat.le_refl _) _

def landsB (B : Book) (s load h f e : Int) : Bool := decide (h - f ≥ e + (load + B.sink - 1) / B.sink + B.under) && inB h (if s = 0 then B.s0.lo else B.s1.lo) (if s = 0 then B.s0.hi else B.s1.hi)
structure Sane (B : Book) : Prop where
  el : 0 ≤ B.el
  ee : B.el ≤ B.eh
  eh : B.eh ≤ 100
  s1 : 1 ≤ B.sink
  s2 : B.sink ≤ 100
  u1 : 0 ≤ B.under
  u2 : B.under ≤ 100

def LandsPost (B : Book) (s load h f e : Int) (w : World) (en : Ending) (w' : World) : Prop := en = .returned (.bool (landsB B s load h f e)) ∧ Below w.heap.size w w'
/-- The boxes of lands' parameters. -/
structure LC (B : Book) (ta : Option Addr) (tc : Nat) (sa : Option Addr) (sc m : Nat) (cv : Value) (hour s f0 f1 : Int) (fid z : Nat) (W0 w : World) : Prop where
  below : Below z W0 w
  size : z + 5 ≤ w.heap.size
  c0 : w.heap[z]? = some (.cells (calcCells B ta tc sa sc m cv) 93 (0, 0))
  c1 : w.heap[z + 1]? = some (.cells #[i64 hour, i64 s] 107 (0, 0))
  c2 : w.heap[z + 1 + 1]? = some (.cells #[i64 f0, i64 f1] 99 (0, 0))
  c3 : w.heap[z + 1 + 1 + 1]? = some (.cells #[.func (.func fid) #[] #[]] 128 (0, 0))
  c4 : w.heap[z + 1 + 1 + 1 + 1]? = some (.cells #[i64 (if s = 0 then B.s0.fl else B.s1.fl), i64 (if s = 0 then B.s0.fh else B.s1.fh), i64 (if s = 0 then B.s0.lo else B.s1.lo), i64 (if s = 0 then B.s0.hi else B.s1.hi)] 26 (0, 0))
theorem LC.more {B ta tc sa sc m cv hour s f0 f1 fid z W0 w w'} (h : LC B ta tc sa sc m cv hour s f0 f1 fid z W0 w) (hb : Below w.heap.size w w') : LC B ta tc sa sc m cv hour s f0 f1 fid z W0 w' :=
  ⟨h.below.trans (hb.mono (by have := h.size; omega)), Nat.le_trans h.size hb.size, (hb.block _ (by have := h.size; omega)).trans h.c0, (hb.block _ (by have := h.size; omega)).trans h.c1, (hb.block _ (by have := h.size; omega)).trans h.c2, (hb.block _ (by have := h.size; omega)).trans h.c3, (hb.block _ (by have := h.size; omega)).trans h.c4⟩
theorem LC.drawn {B ta tc sa sc m cv hour s f0 f1 fid z W0 w} (h : LC B ta tc sa sc m cv hour s f0 f1 fid z W0 w) (n) : LC B ta tc sa sc m cv hour s f0 f1 fid z W0 { w with drawn := n } :=
  ⟨⟨h.below.os, h.below.tape, h.below.output, h.below.size, h.below.block⟩, h.size, h.c0, h.c1, h.c2, h.c3, h.c4⟩
theorem wrap_fit {x : Int} (h1 : -9223372036854775808 ≤ x) (h2 : x ≤ 9223372036854775807) : IntKind.i64.wrap x = x := by rw [IntKind.wrap_i64]; omega
theorem alloc_heap (w : World) (o : Obj) : (w.alloc o).heap = w.heap.push o := rfl
theorem alloc5 (w : World) (o0 o1 o2 o3 o4 : Obj) : Below w.heap.size w (((((w.alloc o0).alloc o1).alloc o2).alloc o3).alloc o4) ∧ (((((w.alloc o0).alloc o1).alloc o2).alloc o3).alloc o4).heap.size = w.heap.size + 5 ∧
    (((((w.alloc o0).alloc o1).alloc o2).alloc o3).alloc o4).heap[w.heap.size]? = some o0 ∧ (((((w.alloc o0).alloc o1).alloc o2).alloc o3).alloc o4).heap[w.heap.size + 1]? = some o1 ∧ (((((w.alloc o0).alloc o1).alloc o2).alloc o3).alloc o4).heap[w.heap.size + 2]? = some o2 ∧
    (((((w.alloc o0).alloc o1).alloc o2).alloc o3).alloc o4).heap[w.heap.size + 3]? = some o3 ∧ (((((w.alloc o0).alloc o1).alloc o2).alloc o3).alloc o4).heap[w.heap.size + 4]? = some o4 := by
  have e : (((((w.alloc o0).alloc o1).alloc o2).alloc o3).alloc o4).heap = w.heap ++ #[o0, o1, o2, o3, o4] := by apply Array.ext'; simp [alloc_heap]
  refine ⟨(((((Below.refl _ w).alloc (Nat.le_refl _) _).alloc (by simp) _).alloc (by simp; omega) _).alloc (by simp; omega) _).alloc (by simp; omega) _, by simp, ?_, ?_, ?_, ?_, ?_⟩ <;> rw [e, Array.getElem?_append_right (by omega)] <;> simp
set_option maxRecDepth 100000 in
set_option maxHeartbeats 1000000 in
theorem lands_at0 (B : Book) (ta : Option Addr) (tc : Nat) (sa : Option Addr) (sc m : Nat) (can : Option Addr) (cn cc : Nat) (hour load h f0 f1 : Int) (fid : Nat) (ev : Int) (w : World) (hB : Sane B)
    (hcf : ∀ w, (callFunc fid #[.agg #[i64 B.el, i64 B.eh]]).run Tryd.prog w = .ok (.enter fid #[.agg #[i64 B.el, i64 B.eh]]) w)
    (hev : ∀ w, Calls Tryd.prog fid #[.agg #[i64 B.el, i64 B.eh]] w fun e w' => e = .returned (i64 ev) ∧ Below w.heap.size w w') (e0 : 0 ≤ ev) (e1 : ev ≤ 100)
    (l0 : 0 ≤ load) (l1 : load ≤ 1000) (h1 : -1000 ≤ h) (h2 : h ≤ 1000) (h3 : -1000 ≤ f0) (h4 : f0 ≤ 1000) :
    Calls Tryd.prog 101 #[calcVal B ta tc sa sc m (.slice can cn cc), .agg #[i64 hour, i64 0], i64 load, i64 h, .agg #[i64 f0, i64 f1], .agg #[.func (.func fid) #[] #[]]] w (LandsPost B 0 load h f0 ev w) := by
  obtain ⟨b1, b2, b3, b4, b5, b6, b7⟩ := hB
  have hk : ¬ B.sink = 0 := by omega
  obtain ⟨Q, hQ, hQ0, hQ1, hQ2⟩ : ∃ Q, Hid (Q = (load + B.sink - 1) / B.sink) ∧ (load + B.sink - 1).tdiv B.sink = Q ∧ 0 ≤ Q ∧ Q ≤ 2000 :=
    ⟨_, Lib.hid rfl, Int.tdiv_eq_ediv_of_nonneg (by omega), Int.ediv_nonneg (by omega) (by omega), Int.le_trans (Int.ediv_le_self _ (by omega)) (by omega)⟩
  go_enter Tryd.func101, Tryd.ntmps101
  go_wp2_with fail
  have hL0 : LC B ta tc sa sc m (.slice can cn cc) hour 0 f0 f1 fid w.heap.size w (((((w.alloc (.cells (calcCells B ta tc sa sc m (.slice can cn cc)) 93)).alloc (.cells #[i64 hour, i64 0] 107)).alloc (.cells #[i64 f0, i64 f1] 99)).alloc (.cells #[.func (.func fid) #[] #[]] 128)).alloc (.cells #[i64 B.s0.fl, i64 B.s0.fh, i64 B.s0.lo, i64 B.s0.hi] 26)) :=
    by
      obtain ⟨p1, p2, p3, p4, p5, p6, p7⟩ := alloc5 w (.cells (calcCells B ta tc sa sc m (.slice can cn cc)) 93) (.cells #[i64 hour, i64 0] 107) (.cells #[i64 f0, i64 f1] 99) (.cells #[.func (.func fid) #[] #[]] 128) (.cells #[i64 B.s0.fl, i64 B.s0.fh, i64 B.s0.lo, i64 B.s0.hi] 26)
      exact ⟨p1, by omega, p3, p4, p5, p6, p7⟩
  refine q_region (LC B ta tc sa sc m (.slice can cn cc) hour 0 f0 f1 fid w.heap.size w) (by kernel_rfl) (by kernel_rfl) (fun n => hL0.drawn n) ?_
  refine q_val (by rfl) ?_
  apply Exists.intro
  refine ⟨fun wq hq => ?_, ?_⟩
  · have hx0 := cells_of hq.c0
    have hx1 := cells_of hq.c1
    have hx2 := cells_of hq.c2
    have hx3 := cells_of hq.c3
    have hx4 := cells_of hq.c4
    go_simp
    rfl
  simp only [Act.put, List.setIfInBounds_toArray, List.set_cons_zero, List.set_cons_succ]
  refine q_val (by rfl) ?_
  apply Exists.intro
  refine ⟨fun wq hq => ?_, ?_⟩
  · have hx0 := cells_of hq.c0
    have hx1 := cells_of hq.c1
    have hx2 := cells_of hq.c2
    have hx3 := cells_of hq.c3
    have hx4 := cells_of hq.c4
    go_simp
    rfl
  simp only [Act.put, List.setIfInBounds_toArray, List.set_cons_zero, List.set_cons_succ]
  refine q_val (by rfl) ?_
  apply Exists.intro
  refine ⟨fun wq hq => ?_, ?_⟩
  · have hx0 := cells_of hq.c0
    have hx1 := cells_of hq.c1
    have hx2 := cells_of hq.c2
    have hx3 := cells_of hq.c3
    have hx4 := cells_of hq.c4
    go_simp
    rfl
  simp only [Act.put, List.setIfInBounds_toArray, List.set_cons_zero, List.set_cons_succ]
  refine q_val (by rfl) ?_
  apply Exists.intro
  refine ⟨fun wq hq => ?_, ?_⟩
  · have hx0 := cells_of hq.c0
    have hx1 := cells_of hq.c1
    have hx2 := cells_of hq.c2
    have hx3 := cells_of hq.c3
    have hx4 := cells_of hq.c4
    go_simp
    rfl
  simp only [Act.put, List.setIfInBounds_toArray, List.set_cons_zero, List.set_cons_succ]
  refine q_val (by rfl) ?_
  apply Exists.intro
  refine ⟨fun wq hq => ?_, ?_⟩
  · have hx0 := cells_of hq.c0
    have hx1 := cells_of hq.c1
    have hx2 := cells_of hq.c2
    have hx3 := cells_of hq.c3
    have hx4 := cells_of hq.c4
    go_simp
    rfl
  simp only [Act.put, List.setIfInBounds_toArray, List.set_cons_zero, List.set_cons_succ]
  refine q_call (by rfl) (i64 ev) fid #[.agg #[i64 B.el, i64 B.eh]] ?_ ?_ ?_
  · intro wq hq
    go_simp
  · intro wq hq
    refine (hev wq).mono ?_
    rintro e w' ⟨rfl, hb⟩
    exact ⟨rfl, hq.more hb⟩
  simp only [Act.put, List.setIfInBounds_toArray, List.set_cons_zero, List.set_cons_succ]
  refine q_val (by rfl) ?_
  apply Exists.intro
  refine ⟨fun wq hq => ?_, ?_⟩
  · have hx0 := cells_of hq.c0
    have hx1 := cells_of hq.c1
    have hx2 := cells_of hq.c2
    have hx3 := cells_of hq.c3
    have hx4 := cells_of hq.c4
    go_simp
    rfl
  simp only [Act.put, List.setIfInBounds_toArray, List.set_cons_zero, List.set_cons_succ]
  refine q_val (by rfl) ?_
  apply Exists.intro
  refine ⟨fun wq hq => ?_, ?_⟩
  · have hx0 := cells_of hq.c0
    have hx1 := cells_of hq.c1
    have hx2 := cells_of hq.c2
    have hx3 := cells_of hq.c3
    have hx4 := cells_of hq.c4
    go_simp
    rfl
  simp only [Act.put, List.setIfInBounds_toArray, List.set_cons_zero, List.set_cons_succ]
  refine q_val (by rfl) ?_
  apply Exists.intro
  refine ⟨fun wq hq => ?_, ?_⟩
  · have hx0 := cells_of hq.c0
    have hx1 := cells_of hq.c1
    have hx2 := cells_of hq.c2
    have hx3 := cells_of hq.c3
    have hx4 := cells_of hq.c4
    go_simp
    rfl
  simp only [Act.put, List.setIfInBounds_toArray, List.set_cons_zero, List.set_cons_succ]
  refine q_val (by rfl) ?_
  apply Exists.intro
  refine ⟨fun wq hq => ?_, ?_⟩
  · have hx0 := cells_of hq.c0
    have hx1 := cells_of hq.c1
    have hx2 := cells_of hq.c2
    have hx3 := cells_of hq.c3
    have hx4 := cells_of hq.c4
    go_simp
    rfl
  simp only [Act.put, List.setIfInBounds_toArray, List.set_cons_zero, List.set_cons_succ]
  refine q_val (by rfl) ⟨i64 (load + B.sink), fun wq hq => ?_, ?_⟩
  · go_simp
    rw [wrap_fit (by omega) (by omega)]
  simp only [Act.put, List.setIfInBounds_toArray, List.set_cons_zero, List.set_cons_succ]
  refine q_val (by rfl) ⟨i64 (load + B.sink - 1), fun wq hq => ?_, ?_⟩
  · go_simp
    rw [wrap_fit (by omega) (by omega)]
  simp only [Act.put, List.setIfInBounds_toArray, List.set_cons_zero, List.set_cons_succ]
  refine q_val (by rfl) ?_
  apply Exists.intro
  refine ⟨fun wq hq => ?_, ?_⟩
  · have hx0 := cells_of hq.c0
    have hx1 := cells_of hq.c1
    have hx2 := cells_of hq.c2
    have hx3 := cells_of hq.c3
    have hx4 := cells_of hq.c4
    go_simp
    rfl
  simp only [Act.put, List.setIfInBounds_toArray, List.set_cons_zero, List.set_cons_succ]
  refine q_val (by rfl) ?_
  apply Exists.intro
  refine ⟨fun wq hq => ?_, ?_⟩
  · have hx0 := cells_of hq.c0
    have hx1 := cells_of hq.c1
    have hx2 := cells_of hq.c2
    have hx3 := cells_of hq.c3
    have hx4 := cells_of hq.c4
    go_simp
    rfl
  simp only [Act.put, List.setIfInBounds_toArray, List.set_cons_zero, List.set_cons_succ]
  refine q_val (by rfl) ?_
  apply Exists.intro
  refine ⟨fun wq hq => ?_, ?_⟩
  · have hx0 := cells_of hq.c0
    have hx1 := cells_of hq.c1
    have hx2 := cells_of hq.c2
    have hx3 := cells_of hq.c3
    have hx4 := cells_of hq.c4
    go_simp
    rfl
  simp only [Act.put, List.setIfInBounds_toArray, List.set_cons_zero, List.set_cons_succ]
  refine q_val (by rfl) ⟨i64 (Q), fun wq hq => ?_, ?_⟩
  · go_simp
    rw [wrap_fit (by omega) (by omega)]
  simp only [Act.put, List.setIfInBounds_toArray, List.set_cons_zero, List.set_cons_succ]
  refine q_val (by rfl) ⟨i64 (ev + Q), fun wq hq => ?_, ?_⟩
  · go_simp
    rw [wrap_fit (by omega) (by omega)]
  simp only [Act.put, List.setIfInBounds_toArray, List.set_cons_zero, List.set_cons_succ]
  refine q_val (by rfl) ?_
  apply Exists.intro
  refine ⟨fun wq hq => ?_, ?_⟩
  · have hx0 := cells_of hq.c0
    have hx1 := cells_of hq.c1
    have hx2 := cells_of hq.c2
    have hx3 := cells_of hq.c3
    have hx4 := cells_of hq.c4
    go_simp
    rfl
  simp only [Act.put, List.setIfInBounds_toArray, List.set_cons_zero, List.set_cons_succ]
  refine q_val (by rfl) ?_
  apply Exists.intro
  refine ⟨fun wq hq => ?_, ?_⟩
  · have hx0 := cells_of hq.c0
    have hx1 := cells_of hq.c1
    have hx2 := cells_of hq.c2
    have hx3 := cells_of hq.c3
    have hx4 := cells_of hq.c4
    go_simp
    rfl
  simp only [Act.put, List.setIfInBounds_toArray, List.set_cons_zero, List.set_cons_succ]
  refine q_val (by rfl) ?_
  apply Exists.intro
  refine ⟨fun wq hq => ?_, ?_⟩
  · have hx0 := cells_of hq.c0
    have hx1 := cells_of hq.c1
    have hx2 := cells_of hq.c2
    have hx3 := cells_of hq.c3
    have hx4 := cells_of hq.c4
    go_simp
    rfl
  simp only [Act.put, List.setIfInBounds_toArray, List.set_cons_zero, List.set_cons_succ]
  refine q_val (by rfl) ⟨i64 (ev + Q + B.under), fun wq hq => ?_, ?_⟩
  · go_simp
    rw [wrap_fit (by omega) (by omega)]
  simp only [Act.put, List.setIfInBounds_toArray, List.set_cons_zero, List.set_cons_succ]
  refine q_val (by rfl) ?_
  apply Exists.intro
  refine ⟨fun wq hq => ?_, ?_⟩
  · have hx0 := cells_of hq.c0
    have hx1 := cells_of hq.c1
    have hx2 := cells_of hq.c2
    have hx3 := cells_of hq.c3
    have hx4 := cells_of hq.c4
    go_simp
    rfl
  simp only [Act.put, List.setIfInBounds_toArray, List.set_cons_zero, List.set_cons_succ]
  clear hL0 hcf hev
  intro w2 hq
  obtain ⟨q1, q2, q3, q4, q5, q6, q7⟩ := hq
  have hx1 := cells_of q4
  have hx2 := cells_of q5
  have hx4 := cells_of q7
  clear q3 q4 q5 q6 q7
  have y1 : w.heap.size + 1 < w2.heap.size := by omega
  have y2 : w.heap.size + 1 + 1 < w2.heap.size := by omega
  have y4 : w.heap.size + 1 + 1 + 1 + 1 < w2.heap.size := by omega
  by_cases hd : h - f0 ≥ ev + Q + B.under
  · have fin : Hid (landsB B 0 load h f0 ev = inB h B.s0.lo B.s0.hi) := by
      show _ = _
      have := hQ.out
      simp only [landsB, ← this]
      rw [decide_eq_true (by omega : h - f0 ≥ ev + Q + B.under)]
      simp
    go_wp2_with (go_at_call 80; refine (within_any _ _ _ _).mono ?_; rintro e w' ⟨rfl, rfl⟩)
    go_ret
    exact ⟨by rw [fin.out]; rfl, q1⟩
  · have fin : Hid (landsB B 0 load h f0 ev = false) := by
      show _ = _
      have := hQ.out
      simp only [landsB, ← this]
      rw [decide_eq_false (by omega : ¬ h - f0 ≥ ev + Q + B.under)]
      simp
    go_wp2_with fail
    go_ret
    exact ⟨by rw [fin.out]; rfl, q1⟩
set_option maxRecDepth 100000 in
set_option maxHeartbeats 1000000 in
theorem lands_at1 (B : Book) (ta : Option Addr) (tc : Nat) (sa : Option Addr) (sc m : Nat) (can : Option Addr) (cn cc : Nat) (hour load h f0 f1 : Int) (fid : Nat) (ev : Int) (w : World) (hB : Sane B)
    (hcf : ∀ w, (callFunc fid #[.agg #[i64 B.el, i64 B.eh]]).run Tryd.prog w = .ok (.enter fid #[.agg #[i64 B.el, i64 B.eh]]) w)
    (hev : ∀ w, Calls Tryd.prog fid #[.agg #[i64 B.el, i64 B.eh]] w fun e w' => e = .returned (i64 ev) ∧ Below w.heap.size w w') (e0 : 0 ≤ ev) (e1 : ev ≤ 100)
    (l0 : 0 ≤ load) (l1 : load ≤ 1000) (h1 : -1000 ≤ h) (h2 : h ≤ 1000) (h3 : -1000 ≤ f1) (h4 : f1 ≤ 1000) :
    Calls Tryd.prog 101 #[calcVal B ta tc sa sc m (.slice can cn cc), .agg #[i64 hour, i64 1], i64 load, i64 h, .agg #[i64 f0, i64 f1], .agg #[.func (.func fid) #[] #[]]] w (LandsPost B 1 load h f1 ev w) := by
  obtain ⟨b1, b2, b3, b4, b5, b6, b7⟩ := hB
  have hk : ¬ B.sink = 0 := by omega
  obtain ⟨Q, hQ, hQ0, hQ1, hQ2⟩ : ∃ Q, Hid (Q = (load + B.sink - 1) / B.sink) ∧ (load + B.sink - 1).tdiv B.sink = Q ∧ 0 ≤ Q ∧ Q ≤ 2000 :=
    ⟨_, Lib.hid rfl, Int.tdiv_eq_ediv_of_nonneg (by omega), Int.ediv_nonneg (by omega) (by omega), Int.le_trans (Int.ediv_le_self _ (by omega)) (by omega)⟩
  go_enter Tryd.func101, Tryd.ntmps101
  go_wp2_with fail
  have hL0 : LC B ta tc sa sc m (.slice can cn cc) hour 1 f0 f1 fid w.heap.size w (((((w.alloc (.cells (calcCells B ta tc sa sc m (.slice can cn cc)) 93)).alloc (.cells #[i64 hour, i64 1] 107)).alloc (.cells #[i64 f0, i64 f1] 99)).alloc (.cells #[.func (.func fid) #[] #[]] 128)).alloc (.cells #[i64 B.s1.fl, i64 B.s1.fh, i64 B.s1.lo, i64 B.s1.hi] 26)) :=
    by
      obtain ⟨p1, p2, p3, p4, p5, p6, p7⟩ := alloc5 w (.cells (calcCells B ta tc sa sc m (.slice can cn cc)) 93) (.cells #[i64 hour, i64 1] 107) (.cells #[i64 f0, i64 f1] 99) (.cells #[.func (.func fid) #[] #[]] 128) (.cells #[i64 B.s1.fl, i64 B.s1.fh, i64 B.s1.lo, i64 B.s1.hi] 26)
      exact ⟨p1, by omega, p3, p4, p5, p6, p7⟩
  refine q_region (LC B ta tc sa sc m (.slice can cn cc) hour 1 f0 f1 fid w.heap.size w) (by kernel_rfl) (by kernel_rfl) (fun n => hL0.drawn n) ?_
  refine q_val (by rfl) ?_
  apply Exists.intro
  refine ⟨fun wq hq => ?_, ?_⟩
  · have hx0 := cells_of hq.c0
    have hx1 := cells_of hq.c1
    have hx2 := cells_of hq.c2
    have hx3 := cells_of hq.c3
    have hx4 := cells_of hq.c4
    go_simp
    rfl
  simp only [Act.put, List.setIfInBounds_toArray, List.set_cons_zero, List.set_cons_succ]
  refine q_val (by rfl) ?_
  apply Exists.intro
  refine ⟨fun wq hq => ?_, ?_⟩
  · have hx0 := cells_of hq.c0
    have hx1 := cells_of hq.c1
    have hx2 := cells_of hq.c2
    have hx3 := cells_of hq.c3
    have hx4 := cells_of hq.c4
    go_simp
    rfl
  simp only [Act.put, List.setIfInBounds_toArray, List.set_cons_zero, List.set_cons_succ]
  refine q_val (by rfl) ?_
  apply Exists.intro
  refine ⟨fun wq hq => ?_, ?_⟩
  · have hx0 := cells_of hq.c0
    have hx1 := cells_of hq.c1
    have hx2 := cells_of hq.c2
    have hx3 := cells_of hq.c3
    have hx4 := cells_of hq.c4
    go_simp
    rfl
  simp only [Act.put, List.setIfInBounds_toArray, List.set_cons_zero, List.set_cons_succ]
  refine q_val (by rfl) ?_
  apply Exists.intro
  refine ⟨fun wq hq => ?_, ?_⟩
  · have hx0 := cells_of hq.c0
    have hx1 := cells_of hq.c1
    have hx2 := cells_of hq.c2
    have hx3 := cells_of hq.c3
    have hx4 := cells_of hq.c4
    go_simp
    rfl
  simp only [Act.put, List.setIfInBounds_toArray, List.set_cons_zero, List.set_cons_succ]
  refine q_val (by rfl) ?_
  apply Exists.intro
  refine ⟨fun wq hq => ?_, ?_⟩
  · have hx0 := cells_of hq.c0
    have hx1 := cells_of hq.c1
    have hx2 := cells_of hq.c2
    have hx3 := cells_of hq.c3
    have hx4 := cells_of hq.c4
    go_simp
    rfl
  simp only [Act.put, List.setIfInBounds_toArray, List.set_cons_zero, List.set_cons_succ]
  refine q_call (by rfl) (i64 ev) fid #[.agg #[i64 B.el, i64 B.eh]] ?_ ?_ ?_
  · intro wq hq
    go_simp
  · intro wq hq
    refine (hev wq).mono ?_
    rintro e w' ⟨rfl, hb⟩
    exact ⟨rfl, hq.more hb⟩
  simp only [Act.put, List.setIfInBounds_toArray, List.set_cons_zero, List.set_cons_succ]
  refine q_val (by rfl) ?_
  apply Exists.intro
  refine ⟨fun wq hq => ?_, ?_⟩
  · have hx0 := cells_of hq.c0
    have hx1 := cells_of hq.c1
    have hx2 := cells_of hq.c2
    have hx3 := cells_of hq.c3
    have hx4 := cells_of hq.c4
    go_simp
    rfl
  simp only [Act.put, List.setIfInBounds_toArray, List.set_cons_zero, List.set_cons_succ]
  refine q_val (by rfl) ?_
  apply Exists.intro
  refine ⟨fun wq hq => ?_, ?_⟩
  · have hx0 := cells_of hq.c0
    have hx1 := cells_of hq.c1
    have hx2 := cells_of hq.c2
    have hx3 := cells_of hq.c3
    have hx4 := cells_of hq.c4
    go_simp
    rfl
  simp only [Act.put, List.setIfInBounds_toArray, List.set_cons_zero, List.set_cons_succ]
  refine q_val (by rfl) ?_
  apply Exists.intro
  refine ⟨fun wq hq => ?_, ?_⟩
  · have hx0 := cells_of hq.c0
    have hx1 := cells_of hq.c1
    have hx2 := cells_of hq.c2
    have hx3 := cells_of hq.c3
    have hx4 := cells_of hq.c4
    go_simp
    rfl
  simp only [Act.put, List.setIfInBounds_toArray, List.set_cons_zero, List.set_cons_succ]
  refine q_val (by rfl) ?_
  apply Exists.intro
  refine ⟨fun wq hq => ?_, ?_⟩
  · have hx0 := cells_of hq.c0
    have hx1 := cells_of hq.c1
    have hx2 := cells_of hq.c2
    have hx3 := cells_of hq.c3
    have hx4 := cells_of hq.c4
    go_simp
    rfl
  simp only [Act.put, List.setIfInBounds_toArray, List.set_cons_zero, List.set_cons_succ]
  refine q_val (by rfl) ⟨i64 (load + B.sink), fun wq hq => ?_, ?_⟩
  · go_simp
    rw [wrap_fit (by omega) (by omega)]
  simp only [Act.put, List.setIfInBounds_toArray, List.set_cons_zero, List.set_cons_succ]
  refine q_val (by rfl) ⟨i64 (load + B.sink - 1), fun wq hq => ?_, ?_⟩
  · go_simp
    rw [wrap_fit (by omega) (by omega)]
  simp only [Act.put, List.setIfInBounds_toArray, List.set_cons_zero, List.set_cons_succ]
  refine q_val (by rfl) ?_
  apply Exists.intro
  refine ⟨fun wq hq => ?_, ?_⟩
  · have hx0 := cells_of hq.c0
    have hx1 := cells_of hq.c1
    have hx2 := cells_of hq.c2
    have hx3 := cells_of hq.c3
    have hx4 := cells_of hq.c4
    go_simp
    rfl
  simp only [Act.put, List.setIfInBounds_toArray, List.set_cons_zero, List.set_cons_succ]
  refine q_val (by rfl) ?_
  apply Exists.intro
  refine ⟨fun wq hq => ?_, ?_⟩
  · have hx0 := cells_of hq.c0
    have hx1 := cells_of hq.c1
    have hx2 := cells_of hq.c2
    have hx3 := cells_of hq.c3
    have hx4 := cells_of hq.c4
    go_simp
    rfl
  simp only [Act.put, List.setIfInBounds_toArray, List.set_cons_zero, List.set_cons_succ]
  refine q_val (by rfl) ?_
  apply Exists.intro
  refine ⟨fun wq hq => ?_, ?_⟩
  · have hx0 := cells_of hq.c0
    have hx1 := cells_of hq.c1
    have hx2 := cells_of hq.c2
    have hx3 := cells_of hq.c3
    have hx4 := cells_of hq.c4
    go_simp
    rfl
  simp only [Act.put, List.setIfInBounds_toArray, List.set_cons_zero, List.set_cons_succ]
  refine q_val (by rfl) ⟨i64 (Q), fun wq hq => ?_, ?_⟩
  · go_simp
    rw [wrap_fit (by omega) (by omega)]
  simp only [Act.put, List.setIfInBounds_toArray, List.set_cons_zero, List.set_cons_succ]
  refine q_val (by rfl) ⟨i64 (ev + Q), fun wq hq => ?_, ?_⟩
  · go_simp
    rw [wrap_fit (by omega) (by omega)]
  simp only [Act.put, List.setIfInBounds_toArray, List.set_cons_zero, List.set_cons_succ]
  refine q_val (by rfl) ?_
  apply Exists.intro
  refine ⟨fun wq hq => ?_, ?_⟩
  · have hx0 := cells_of hq.c0
    have hx1 := cells_of hq.c1
    have hx2 := cells_of hq.c2
    have hx3 := cells_of hq.c3
    have hx4 := cells_of hq.c4
    go_simp
    rfl
  simp only [Act.put, List.setIfInBounds_toArray, List.set_cons_zero, List.set_cons_succ]
  refine q_val (by rfl) ?_
  apply Exists.intro
  refine ⟨fun wq hq => ?_, ?_⟩
  · have hx0 := cells_of hq.c0
    have hx1 := cells_of hq.c1
    have hx2 := cells_of hq.c2
    have hx3 := cells_of hq.c3
    have hx4 := cells_of hq.c4
    go_simp
    rfl
  simp only [Act.put, List.setIfInBounds_toArray, List.set_cons_zero, List.set_cons_succ]
  refine q_val (by rfl) ?_
  apply Exists.intro
  refine ⟨fun wq hq => ?_, ?_⟩
  · have hx0 := cells_of hq.c0
    have hx1 := cells_of hq.c1
    have hx2 := cells_of hq.c2
    have hx3 := cells_of hq.c3
    have hx4 := cells_of hq.c4
    go_simp
    rfl
  simp only [Act.put, List.setIfInBounds_toArray, List.set_cons_zero, List.set_cons_succ]
  refine q_val (by rfl) ⟨i64 (ev + Q + B.under), fun wq hq => ?_, ?_⟩
  · go_simp
    rw [wrap_fit (by omega) (by omega)]
  simp only [Act.put, List.setIfInBounds_toArray, List.set_cons_zero, List.set_cons_succ]
  refine q_val (by rfl) ?_
  apply Exists.intro
  refine ⟨fun wq hq => ?_, ?_⟩
  · have hx0 := cells_of hq.c0
    have hx1 := cells_of hq.c1
    have hx2 := cells_of hq.c2
    have hx3 := cells_of hq.c3
    have hx4 := cells_of hq.c4
    go_simp
    rfl
  simp only [Act.put, List.setIfInBounds_toArray, List.set_cons_zero, List.set_cons_succ]
  clear hL0 hcf hev
  intro w2 hq
  obtain ⟨q1, q2, q3, q4, q5, q6, q7⟩ := hq
  have hx1 := cells_of q4
  have hx2 := cells_of q5
  have hx4 := cells_of q7
  clear q3 q4 q5 q6 q7
  have y1 : w.heap.size + 1 < w2.heap.size := by omega
  have y2 : w.heap.size + 1 + 1 < w2.heap.size := by omega
  have y4 : w.heap.size + 1 + 1 + 1 + 1 < w2.heap.size := by omega
  by_cases hd : h - f1 ≥ ev + Q + B.under
  · have fin : Hid (landsB B 1 load h f1 ev = inB h B.s1.lo B.s1.hi) := by
      show _ = _
      have := hQ.out
      simp only [landsB, ← this]
      rw [decide_eq_true (by omega : h - f1 ≥ ev + Q + B.under)]
      simp
    go_wp2_with (go_at_call 80; refine (within_any _ _ _ _).mono ?_; rintro e w' ⟨rfl, rfl⟩)
    go_ret
    exact ⟨by rw [fin.out]; rfl, q1⟩
  · have fin : Hid (landsB B 1 load h f1 ev = false) := by
      show _ = _
      have := hQ.out
      simp only [landsB, ← this]
      rw [decide_eq_false (by omega : ¬ h - f1 ≥ ev + Q + B.under)]
      simp
    go_wp2_with fail
    go_ret
    exact ⟨by rw [fin.out]; rfl, q1⟩
theorem lands_high (B : Book) (ta : Option Addr) (tc : Nat) (sa : Option Addr) (sc m : Nat) (can : Option Addr) (cn cc : Nat) (hour s load h f0 f1 : Int) (hs : s = 0 ∨ s = 1) (w : World) (hB : Sane B)
    (l0 : 0 ≤ load) (l1 : load ≤ 1000) (h1 : -1000 ≤ h) (h2 : h ≤ 1000) (h3 : -1000 ≤ f0) (h4 : f0 ≤ 1000) (h5 : -1000 ≤ f1) (h6 : f1 ≤ 1000) :
    Calls Tryd.prog 101 #[calcVal B ta tc sa sc m (.slice can cn cc), .agg #[i64 hour, i64 s], i64 load, i64 h, .agg #[i64 f0, i64 f1], .agg #[.func (.func 106) #[] #[]]] w (LandsPost B s load h (if s = 0 then f0 else f1) B.eh w) := by
  have hcf : ∀ w, (callFunc 106 #[.agg #[i64 B.el, i64 B.eh]]).run Tryd.prog w = .ok (.enter 106 #[.agg #[i64 B.el, i64 B.eh]]) w := fun w => enters_of Tryd.func106 (by kernel_rfl) rfl _ w
  have x1 := hB.el
  have x2 := hB.ee
  have x3 := hB.eh
  rcases hs with rfl | rfl
  · exact lands_at0 B ta tc sa sc m can cn cc hour load h f0 f1 106 _ w hB hcf (high1_any _ _) (by omega) (by omega) l0 l1 h1 h2 h3 h4
  · exact lands_at1 B ta tc sa sc m can cn cc hour load h f0 f1 106 _ w hB hcf (high1_any _ _) (by omega) (by omega) l0 l1 h1 h2 h5 h6
theorem lands_low (B : Book) (ta : Option Addr) (tc : Nat) (sa : Option Addr) (sc m : Nat) (can : Option Addr) (cn cc : Nat) (hour s load h f0 f1 : Int) (hs : s = 0 ∨ s = 1) (w : World) (hB : Sane B)
    (l0 : 0 ≤ load) (l1 : load ≤ 1000) (h1 : -1000 ≤ h) (h2 : h ≤ 1000) (h3 : -1000 ≤ f0) (h4 : f0 ≤ 1000) (h5 : -1000 ≤ f1) (h6 : f1 ≤ 1000) :
    Calls Tryd.prog 101 #[calcVal B ta tc sa sc m (.slice can cn cc), .agg #[i64 hour, i64 s], i64 load, i64 h, .agg #[i64 f0, i64 f1], .agg #[.func (.func 125) #[] #[]]] w (LandsPost B s load h (if s = 0 then f0 else f1) B.el w) := by
  have hcf : ∀ w, (callFunc 125 #[.agg #[i64 B.el, i64 B.eh]]).run Tryd.prog w = .ok (.enter 125 #[.agg #[i64 B.el, i64 B.eh]]) w := fun w => enters_of Tryd.func125 (by kernel_rfl) rfl _ w
  have x1 := hB.el
  have x2 := hB.ee
  have x3 := hB.eh
  rcases hs with rfl | rfl
  · exact lands_at0 B ta tc sa sc m can cn cc hour load h f0 f1 125 _ w hB hcf (low1_any _ _) (by omega) (by omega) l0 l1 h1 h2 h3 h4
  · exact lands_at1 B ta tc sa sc m can cn cc hour load h f0 f1 125 _ w hB hcf (low1_any _ _) (by omega) (by omega) l0 l1 h1 h2 h5 h6
end Go.Proofs.YtkbmpkdflgimmaaDoor
/- Lists of what both bottoms can be, in memory; what may and must compute. -/
namespace Go.Proofs.YtkbmpkdflgimmaaDoor
open Go.RowKit Go.Shelf

/-- A list of bottoms lies in memory at block b, offset o; b lies below n. -/
structure CansAt (n : Nat) (w : World) (b o : Nat) (a : Option Addr) (l : List (Int × Int)) : Prop where
  len : l.length * 16 ≤ 140737488351232
  at_ : l ≠ [] → a = some ⟨b, o, none⟩
  lt : l ≠ [] → b < n
  fst : ∀ k (h : k < l.length), w.cell? ⟨b, o + k * 2, none⟩ = some (i64 l[k].1)
  snd : ∀ k (h : k < l.length), w.cell? ⟨b, o + k * 2 + 1, none⟩ = some (i64 l[k].2)
theorem CansAt.same {n : Nat} {w w' : World} {b o a l} (h : CansAt n w b o a l) (hb : Same n w w') : CansAt n w' b o a l :=
  ⟨h.len, h.at_, h.lt, fun k hk => (hb.cell (p := ⟨b, _, none⟩) (h.lt (ne_nil_of_lt hk))).trans (h.fst k hk), fun k hk => (hb.cell (p := ⟨b, _, none⟩) (h.lt (ne_nil_of_lt hk))).trans (h.snd k hk)⟩
theorem CansAt.up {n n' : Nat} {w : World} {b o a l} (h : CansAt n w b o a l) (hn : n ≤ n') : CansAt n' w b o a l := ⟨h.len, h.at_, fun x => Nat.lt_of_lt_of_le (h.lt x) hn, h.fst, h.snd⟩
/-- Heights that are so near to 0 that nothing runs over. -/
def CansOk (l : List (Int × Int)) : Prop := ∀ f ∈ l, (-100 ≤ f.1 ∧ f.1 ≤ 100) ∧ (-100 ≤ f.2 ∧ f.2 ≤ 100)
def fAt (s : Int) (f : Int × Int) : Int := if s = 0 then f.1 else f.2
def mustB (B : Book) (s load : Int) (t : Span) (D : Int → Int → List Int) (hour : Int) (l : List (Int × Int)) : Bool := l.all fun f => (hList t D hour f.1 f.2).all fun h => landsB B s load h (fAt s f) B.eh
def mayB (B : Book) (s load : Int) (t : Span) (D : Int → Int → List Int) (hour : Int) (l : List (Int × Int)) : Bool := l.any fun f => (hList t D hour f.1 f.2).any fun h => landsB B s load h (fAt s f) B.el

/-- The boxes of the parameters of may and must, and of their result. -/
structure MI (z : Nat) (B : Book) (ta : Option Addr) (tc : Nat) (sa : Option Addr) (sc m : Nat) (cv : Value) (hour s load : Int) (r : Bool) (W0 W : World) : Prop where
  below : Below z W0 W
  c0 : W.heap[z]? = some (.cells (calcCells B ta tc sa sc m cv) 93 (0, 0))
  c1 : W.heap[z + 1]? = some (.cells #[i64 hour, i64 s] 107 (0, 0))
  c2 : W.heap[z + 1 + 1]? = some (.cells #[i64 load] 3 (0, 0))
  c3 : W.heap[z + 1 + 1 + 1]? = some (.cells #[.bool r] 4 (0, 0))
theorem MI.lt {z B ta tc sa sc m cv hour s load r W0 W} (h : MI z B ta tc sa sc m cv hour s load r W0 W) : z + 3 < W.heap.size := (Array.getElem?_eq_some_iff.1 h.c3).1
theorem MI.more {z B ta tc sa sc m cv hour s load r W0 W W'} (h : MI z B ta tc sa sc m cv hour s load r W0 W) (hb : Below W.heap.size W W') : MI z B ta tc sa sc m cv hour s load r W0 W' := by
  have := h.lt
  exact ⟨h.below.trans (hb.mono (by omega)), (hb.block _ (by omega)).trans h.c0, (hb.block _ (by omega)).trans h.c1, (hb.block _ (by omega)).trans h.c2, (hb.block _ (by omega)).trans h.c3⟩
theorem alloc4 (w : World) (o0 o1 o2 o3 : Obj) : Below w.heap.size w ((((w.alloc o0).alloc o1).alloc o2).alloc o3) ∧ ((((w.alloc o0).alloc o1).alloc o2).alloc o3).heap.size = w.heap.size + 4 ∧
    ((((w.alloc o0).alloc o1).alloc o2).alloc o3).heap[w.heap.size]? = some o0 ∧ ((((w.alloc o0).alloc o1).alloc o2).alloc o3).heap[w.heap.size + 1]? = some o1 ∧ ((((w.alloc o0).alloc o1).alloc o2).alloc o3).heap[w.heap.size + 1 + 1]? = some o2 ∧
    ((((w.alloc o0).alloc o1).alloc o2).alloc o3).heap[w.heap.size + 1 + 1 + 1]? = some o3 := by
  have e : ((((w.alloc o0).alloc o1).alloc o2).alloc o3).heap = w.heap ++ #[o0, o1, o2, o3] := by apply Array.ext'; simp [alloc_heap]
  refine ⟨((((Below.refl _ w).alloc (Nat.le_refl _) _).alloc (by simp) _).alloc (by simp; omega) _).alloc (by simp; omega) _, by simp, ?_, ?_, ?_, ?_⟩ <;> rw [e, Array.getElem?_append_right (by omega)]
  · simp
  · simp
  · rw [show w.heap.size + 1 + 1 - w.heap.size = 2 by omega]; rfl
  · rw [show w.heap.size + 1 + 1 + 1 - w.heap.size = 3 by omega]; rfl
theorem MI.result {z B ta tc sa sc m cv hour s load r W0 W} (h : MI z B ta tc sa sc m cv hour s load r W0 W) : Boxed W (z + 1 + 1 + 1) 4 (.bool r) := h.c3
end Go.Proofs.YtkbmpkdflgimmaaDoor
/- The contracts of (book).must and (book).may. -/
namespace Go.Proofs.YtkbmpkdflgimmaaDoor
open Go.RowKit Go.Shelf
attribute [local go_sem] Oper.semAt_some
theorem setBoth {n : Nat} {A A' : World} (h : Below n A A') (p : Addr) (v : Value) : Below n (A.setCell p v) (A'.setCell p v) := by
  refine ⟨h.os, h.tape, h.output, by simpa [World.setCell] using h.size, fun k hk => ?_⟩
  have := h.block k hk
  simp only [World.setCell, Array.getElem?_modify, this]
set_option maxRecDepth 100000 in
set_option maxHeartbeats 2000000 in
theorem must_in (n : Nat) (hn : 3 ≤ n) (nA : Nat) (B : Book) (tb tq : Nat) (ta : Option Addr) (tc : Nat) (sa : Option Addr) (sc m : Nat) (cb co : Nat) (ca : Option Addr) (can : List (Int × Int)) (cc : Nat) (D : Int → Int → List Int) (hr : Nat) (hh : HourOk B hr) (s load : Int)
    (hB : Sane B) (hs : s = 0 ∨ s = 1) (l0 : 0 ≤ load) (l1 : load ≤ 1000) (hok : CansOk can) (w : World) (hna : nA ≤ w.heap.size) (hT : SpansAt nA w tb tq ta B.tides) (hM : MapIn nA w m D) (hC : CansAt nA w cb co ca can) :
    CallsIn Fence.wide n Tryd.prog 79 #[calcVal B ta tc sa sc m (.slice ca can.length cc), .agg #[i64 hr, i64 s], i64 load] w (SomePost (mustB B s load (B.tides[hr]'hh.lt) D hr can) w) := by
  refine callsIn_of_wp_marks Tryd.func79 rfl trivial ?_ rfl
  simp only [Tryd.ntmps79, List.size_toArray, List.length_cons, List.length_nil, Nat.reduceAdd, Nat.reduceSub, Array.replicate_succ, Array.replicate_zero, List.push_toArray, List.append_toArray, List.nil_append, List.cons_append]
  have h1 : 1 ≤ n := by omega
  have hlen := hC.len
  gi_wp2_with fail
  have hM0 : MI w.heap.size B ta tc sa sc m (.slice ca can.length cc) hr s load false w ((((w.alloc (.cells (calcCells B ta tc sa sc m (.slice ca can.length cc)) 93)).alloc (.cells #[i64 hr, i64 s] 107)).alloc (.cells #[i64 load] 3)).alloc (.cells #[.bool false] 4)) := by
    obtain ⟨p1, p2, p3, p4, p5, p6⟩ := alloc4 w (.cells (calcCells B ta tc sa sc m (.slice ca can.length cc)) 93) (.cells #[i64 hr, i64 s] 107) (.cells #[i64 load] 3) (.cells #[.bool false] 4)
    exact ⟨p1, p3, p4, p5, p6⟩
  refine wpIn_loop (fun a wr => ∃ (k : Nat) (Ds : List Nat) (v8 v14 v15 v16 v17 v18 v19 v20 v21 v31 : Value), k ≤ can.length ∧ a = { tmps := #[calcVal B ta tc sa sc m (.slice ca can.length cc), .agg #[i64 hr, i64 s], i64 load, .pointer (some ⟨w.heap.size, 0, none⟩), .pointer (some ⟨w.heap.size + 1, 0, none⟩), .pointer (some ⟨w.heap.size + 1 + 1, 0, none⟩), .pointer (some ⟨w.heap.size + 1 + 1 + 1, 0, none⟩), undef, v8, undef, .pointer (some ⟨w.heap.size, 15, none⟩), .slice ca can.length cc, i64 can.length, i64 k, v14, v15, v16, v17, v18, v19, v20, v21, undef, undef, undef, undef, undef, undef, undef, undef, undef, v31], defers := Ds.map mark } ∧
    Marks w.heap.size Ds wr ∧ MI w.heap.size B ta tc sa sc m (.slice ca can.length cc) hr s load false w wr ∧ Hid (mustB B s load (B.tides[hr]'hh.lt) D hr (can.take k) = true))
    (fun a _ => can.length - (intOf (a.tmps.getD 13 undef)).toNat) ?_ ?_
  · exact ⟨0, [], _, _, _, _, _, _, _, _, _, _, Nat.zero_le _, rfl, Marks.nil _ _, hM0, by simp [Hid, mustB]⟩
  clear hM0
  rintro a wr ⟨k, Ds, v8, v14, v15, v16, v17, v18, v19, v20, v21, v31, hk, rfl, hMk, hMI, hgo⟩
  by_cases hlt : k < can.length
  · have hnn := ne_nil_of_lt hlt
    have hx0 := cells_of hMI.c0
    have hx1 := cells_of hMI.c1
    have hx2 := cells_of hMI.c2
    have hz := hMI.lt
    have hz0 : w.heap.size < wr.heap.size := by omega
    have hz1 : w.heap.size + 1 < wr.heap.size := by omega
    have hz2 : w.heap.size + 1 + 1 < wr.heap.size := by omega
    have hC1 := hC.same ((Same.of_below hMI.below).mono hna)
    have hidx := idx91 (n := can.length) (c := cc) (k := k) wr (hC1.at_ hnn) hlt
    have hc1 := hC1.fst k hlt
    have hc2 := hC1.snd k hlt
    have hok1 := hok _ (List.getElem_mem hlt)
    obtain ⟨⟨g1, g2⟩, g3, g4⟩ := hok1
    gi_wp2_with (refine ⟨trivial, ?_⟩; gi_at_call 74; refine (CallsIn.mono (callsIn_wide.2 (heights_b B ta tc sa sc m ca can.length cc _ _ _ _)) ?_); rintro e w' ⟨b0, hbe, rfl, hb1, e0, e1, e2⟩)
    have hbA : Below wr.heap.size wr w' := ((Below.refl _ wr).alloc (Nat.le_refl _) _).trans (hb1.mono (by simp))
    have hMI1 := hMI.more hbA
    have hMk1 := hMk.more hbA
    have hf1 : w'.heap[wr.heap.size]? = some (.cells #[i64 (can[k]).1, i64 (can[k]).2] 99 (0, 0)) := (hb1.block _ (by simp)).trans (heap_alloc_new wr _)
    have hflt : wr.heap.size < w'.heap.size := (Array.getElem?_eq_some_iff.1 hf1).1
    have hbe' : wr.heap.size + 1 ≤ b0 := by simpa using hbe
    have hlt2 : b0 + 2 < w'.heap.size := (Array.getElem?_eq_some_iff.1 e2).1
    have hF : HF nA b0 B tb tq ta tc sa sc m ca can.length cc D hr (can[k]).1 (can[k]).2 w' := ⟨by omega, e0, e1, e2, hT.same ((Same.of_below hMI1.below).mono hna), hM.same ((Same.of_below hMI1.below).mono hna)⟩
    have hOF : ∀ {β : Type} (p : β → Prop) (w0 : World), OwnFrom w'.heap.size (fun (s : β) W => p s ∧ Below w'.heap.size w0 W ∧ w'.heap.size ≤ W.heap.size) := fun {β} p w0 s A A' row h hg hr => ⟨h.1, ownFrom_below (β := β) (Nat.le_refl _) s A A' row h.2 hg hr⟩
    clear hb1 e0 e1 e2 hbe hx0 hx1 hx2 hidx hc1 hc2 hMk hMI
    refine wpIn_rangeFunc_ownG rfl h1 (gf := 97) (lb := #[.pointer (some ⟨b0, 0, none⟩), .pointer (some ⟨b0 + 1, 0, none⟩), .pointer (some ⟨b0 + 2, 0, none⟩)]) rfl trivial (enters_of Tryd.func97 (by kernel_rfl) rfl)
      (heights_stops (n - 1) (by omega) nA b0 B tb tq ta tc sa sc m ca can.length cc D hr hh _ _ g1 g2 g3 g4 w' hF) (fun h k => Kp.trans h k) (Kp.b (by have := hF.na; omega)) (Below.refl _ _) (fun _ => rfl)
      (fun pre W => (pre.all (fun x => landsB B s load x.1 (fAt s can[k]) B.eh) = true) ∧ Below w'.heap.size w' W ∧ w'.heap.size ≤ W.heap.size)
      (fun c pre W => (c = .ret ∧ ∃ x ∈ pre, landsB B s load x.1 (fAt s can[k]) B.eh = false) ∧ Below w'.heap.size (w'.setCell ⟨w.heap.size + 1 + 1 + 1, 0, none⟩ (.bool false)) W ∧ w'.heap.size ≤ W.heap.size)
      (hOF _ _) (fun c => hOF _ _) ⟨rfl, Below.refl _ _, Nat.le_refl _⟩ ?a1 ?assign ?body ?done ?stop
    case assign =>
      intro l x W K hK
      gi_wp2
      exact hK
    case body =>
      rintro l pre x W ⟨hall, hbw, hsz⟩ _
      have hMW := hMI1.more hbw
      have hfW := (hbw.block _ hflt).trans hf1
      have hfl : wr.heap.size < W.heap.size := by omega
      have hy0 := cells_of hMW.c0
      have hy1 := cells_of hMW.c1
      have hy2 := cells_of hMW.c2
      have hyf := cells_of hfW
      have hyz := hMW.lt
      have hyz0 : w.heap.size < W.heap.size := by omega
      have hyz1 : w.heap.size + 1 < W.heap.size := by omega
      have hyz2 : w.heap.size + 1 + 1 < W.heap.size := by omega
      have hx := x.2
      obtain ⟨hx1, hx2⟩ := hx
      cases hl : landsB B s load x.1 (fAt s can[k]) B.eh
      · have hl := Lib.hid hl
        · 
          gi_wp2_with fail
          refine qr_region (fun Wq => Below W.heap.size W Wq) (by kernel_rfl) (by kernel_rfl) (by kernel_rfl) (fun n => ⟨rfl, rfl, rfl, Nat.le_refl _, fun _ _ => rfl⟩) ?_
          refine qr_val (by rfl) ?_
          apply Exists.intro
          refine ⟨fun wq hq => ?_, ?_⟩
          · have hy0 := cells_of (hMW.more hq).c0
            have hy1 := cells_of (hMW.more hq).c1
            have hy2 := cells_of (hMW.more hq).c2
            have hyf := cells_of ((hq.block _ hfl).trans hfW)
            go_simp
            rfl
          simp only [Act.put, List.setIfInBounds_toArray, List.set_cons_zero, List.set_cons_succ]
          refine qr_val (by rfl) ?_
          apply Exists.intro
          refine ⟨fun wq hq => ?_, ?_⟩
          · have hy0 := cells_of (hMW.more hq).c0
            have hy1 := cells_of (hMW.more hq).c1
            have hy2 := cells_of (hMW.more hq).c2
            have hyf := cells_of ((hq.block _ hfl).trans hfW)
            go_simp
            rfl
          simp only [Act.put, List.setIfInBounds_toArray, List.set_cons_zero, List.set_cons_succ]
          refine qr_val (by rfl) ?_
          apply Exists.intro
          refine ⟨fun wq hq => ?_, ?_⟩
          · have hy0 := cells_of (hMW.more hq).c0
            have hy1 := cells_of (hMW.more hq).c1
            have hy2 := cells_of (hMW.more hq).c2
            have hyf := cells_of ((hq.block _ hfl).trans hfW)
            go_simp
            rfl
          simp only [Act.put, List.setIfInBounds_toArray, List.set_cons_zero, List.set_cons_succ]
          refine qr_val (by rfl) ?_
          apply Exists.intro
          refine ⟨fun wq hq => ?_, ?_⟩
          · have hy0 := cells_of (hMW.more hq).c0
            have hy1 := cells_of (hMW.more hq).c1
            have hy2 := cells_of (hMW.more hq).c2
            have hyf := cells_of ((hq.block _ hfl).trans hfW)
            go_simp
            rfl
          simp only [Act.put, List.setIfInBounds_toArray, List.set_cons_zero, List.set_cons_succ]
          refine qr_val (by rfl) ?_
          apply Exists.intro
          refine ⟨fun wq hq => ?_, ?_⟩
          · have hy0 := cells_of (hMW.more hq).c0
            have hy1 := cells_of (hMW.more hq).c1
            have hy2 := cells_of (hMW.more hq).c2
            have hyf := cells_of ((hq.block _ hfl).trans hfW)
            go_simp
            rfl
          simp only [Act.put, List.setIfInBounds_toArray, List.set_cons_zero, List.set_cons_succ]
          refine qr_call (by rfl) (.agg #[.func (.func 106) #[] #[]]) 102 #[] ?_ ?_ ?_
          · intro wq hq
            go_simp
          · intro wq hq
            refine (high_any wq).mono ?_
            rintro e w2 ⟨rfl, hb⟩
            exact ⟨rfl, hq.trans (hb.mono hq.size)⟩
          simp only [Act.put, List.setIfInBounds_toArray, List.set_cons_zero, List.set_cons_succ]
          refine qr_call (by rfl) (.bool false) 101 #[calcVal B ta tc sa sc m (.slice ca can.length cc), .agg #[i64 hr, i64 s], i64 load, i64 x.1, .agg #[i64 (can[k]).1, i64 (can[k]).2], .agg #[.func (.func 106) #[] #[]]] ?_ ?_ ?_
          · intro wq hq
            go_simp
          · intro wq hq
            refine (lands_high B ta tc sa sc m ca can.length cc hr s load x.1 (can[k]).1 (can[k]).2 hs wq hB l0 l1 (by omega) (by omega) (by omega) (by omega) (by omega) (by omega)).mono ?_
            rintro e w2 ⟨rfl, hb⟩
            exact ⟨by have := hl.out; unfold fAt at this; rw [this], hq.trans (hb.mono hq.size)⟩
          simp only [Act.put, List.setIfInBounds_toArray, List.set_cons_zero, List.set_cons_succ]
          refine qr_val (by rfl) ⟨.bool true, fun wq hq => by go_simp, ?_⟩
          simp only [Act.put, List.setIfInBounds_toArray, List.set_cons_zero, List.set_cons_succ]
          intro w2 hq
          have hM2 := hMW.more hq
          have hbx := hM2.result
          have hc5 := hbx.cell
          have hf5 := hbx.frozen
          have hlt5 := hM2.lt
          gi_wp2_with fail
          refine ⟨(KeepsFrom.of_grownBy (row := none) ⟨hq.os, hq.tape, hq.output, hq.size, fun i hi _ => hq.block i hi⟩ (fun j e => by cases e)).trans ((KeepsOthers.setCell _ _ _).from _), ⟨rfl, x, by simp, hl.out⟩, ?_, ?_⟩
          · exact setBoth (hbw.trans (hq.mono hsz)) _ _
          · simpa [World.setCell] using Nat.le_trans hsz hq.size

      · have hl := Lib.hid hl
        · 
          gi_wp2_with fail
          refine qr_region (fun Wq => Below W.heap.size W Wq) (by kernel_rfl) (by kernel_rfl) (by kernel_rfl) (fun n => ⟨rfl, rfl, rfl, Nat.le_refl _, fun _ _ => rfl⟩) ?_
          refine qr_val (by rfl) ?_
          apply Exists.intro
          refine ⟨fun wq hq => ?_, ?_⟩
          · have hy0 := cells_of (hMW.more hq).c0
            have hy1 := cells_of (hMW.more hq).c1
            have hy2 := cells_of (hMW.more hq).c2
            have hyf := cells_of ((hq.block _ hfl).trans hfW)
            go_simp
            rfl
          simp only [Act.put, List.setIfInBounds_toArray, List.set_cons_zero, List.set_cons_succ]
          refine qr_val (by rfl) ?_
          apply Exists.intro
          refine ⟨fun wq hq => ?_, ?_⟩
          · have hy0 := cells_of (hMW.more hq).c0
            have hy1 := cells_of (hMW.more hq).c1
            have hy2 := cells_of (hMW.more hq).c2
            have hyf := cells_of ((hq.block _ hfl).trans hfW)
            go_simp
            rfl
          simp only [Act.put, List.setIfInBounds_toArray, List.set_cons_zero, List.set_cons_succ]
          refine qr_val (by rfl) ?_
          apply Exists.intro
          refine ⟨fun wq hq => ?_, ?_⟩
          · have hy0 := cells_of (hMW.more hq).c0
            have hy1 := cells_of (hMW.more hq).c1
            have hy2 := cells_of (hMW.more hq).c2
            have hyf := cells_of ((hq.block _ hfl).trans hfW)
            go_simp
            rfl
          simp only [Act.put, List.setIfInBounds_toArray, List.set_cons_zero, List.set_cons_succ]
          refine qr_val (by rfl) ?_
          apply Exists.intro
          refine ⟨fun wq hq => ?_, ?_⟩
          · have hy0 := cells_of (hMW.more hq).c0
            have hy1 := cells_of (hMW.more hq).c1
            have hy2 := cells_of (hMW.more hq).c2
            have hyf := cells_of ((hq.block _ hfl).trans hfW)
            go_simp
            rfl
          simp only [Act.put, List.setIfInBounds_toArray, List.set_cons_zero, List.set_cons_succ]
          refine qr_val (by rfl) ?_
          apply Exists.intro
          refine ⟨fun wq hq => ?_, ?_⟩
          · have hy0 := cells_of (hMW.more hq).c0
            have hy1 := cells_of (hMW.more hq).c1
            have hy2 := cells_of (hMW.more hq).c2
            have hyf := cells_of ((hq.block _ hfl).trans hfW)
            go_simp
            rfl
          simp only [Act.put, List.setIfInBounds_toArray, List.set_cons_zero, List.set_cons_succ]
          refine qr_call (by rfl) (.agg #[.func (.func 106) #[] #[]]) 102 #[] ?_ ?_ ?_
          · intro wq hq
            go_simp
          · intro wq hq
            refine (high_any wq).mono ?_
            rintro e w2 ⟨rfl, hb⟩
            exact ⟨rfl, hq.trans (hb.mono hq.size)⟩
          simp only [Act.put, List.setIfInBounds_toArray, List.set_cons_zero, List.set_cons_succ]
          refine qr_call (by rfl) (.bool true) 101 #[calcVal B ta tc sa sc m (.slice ca can.length cc), .agg #[i64 hr, i64 s], i64 load, i64 x.1, .agg #[i64 (can[k]).1, i64 (can[k]).2], .agg #[.func (.func 106) #[] #[]]] ?_ ?_ ?_
          · intro wq hq
            go_simp
          · intro wq hq
            refine (lands_high B ta tc sa sc m ca can.length cc hr s load x.1 (can[k]).1 (can[k]).2 hs wq hB l0 l1 (by omega) (by omega) (by omega) (by omega) (by omega) (by omega)).mono ?_
            rintro e w2 ⟨rfl, hb⟩
            exact ⟨by have := hl.out; unfold fAt at this; rw [this], hq.trans (hb.mono hq.size)⟩
          simp only [Act.put, List.setIfInBounds_toArray, List.set_cons_zero, List.set_cons_succ]
          refine qr_val (by rfl) ⟨.bool false, fun wq hq => by go_simp, ?_⟩
          simp only [Act.put, List.setIfInBounds_toArray, List.set_cons_zero, List.set_cons_succ]
          intro w2 hq
          have hM2 := hMW.more hq
          gi_wp2_with fail
          exact ⟨KeepsFrom.of_grownBy (row := none) ⟨hq.os, hq.tape, hq.output, hq.size, fun i hi _ => hq.block i hi⟩ (fun j e => by cases e), Kp.of_below hq (by have := hF.lt; have := hF.na; omega),
            by rw [List.all_append, hall, Bool.true_and]; simpa using hl.out, hbw.trans (hq.mono hsz), Nat.le_trans hsz hq.size⟩

    case done =>
      rintro Dd xs W hD hxs ⟨hall, hbw, hsz⟩ hK
      have hMW := hMI1.more hbw
      have hgo2 : Hid (mustB B s load (B.tides[hr]'hh.lt) D hr (can.take (k + 1)) = true) := by
        show _ = _
        have h2 := hgo.out
        unfold mustB at h2 ⊢
        rw [List.take_succ_eq_append_getElem hlt, List.all_append, h2]
        have h3 : (hList (B.tides[hr]'hh.lt) D hr (can[k]).1 (can[k]).2).all (fun h => landsB B s load h (fAt s can[k]) B.eh) = true := by
          rw [← hxs, List.all_map]; exact hall
        simp only [List.all_cons, List.all_nil, h3]; rfl
      gi_wp2
      refine ⟨⟨k + 1, Dd :: Ds, _, _, _, _, _, _, _, _, _, _, hlt, by go_num, ?_, hMW, hgo2⟩, ?_⟩
      · exact hMk1.cons rfl (fun i hi hk => (hbw.block i hi).trans hk) (by omega) hD hK
      · simp [intOf]; omega
    case stop =>
      rintro Dd c pre W hD hpre ⟨⟨rfl, x, hx, hl⟩, hbw, hsz⟩ hK
      have hfin : Hid (mustB B s load (B.tides[hr]'hh.lt) D hr can = false) := by
        show _ = _
        unfold mustB
        rw [List.all_eq_false]
        have hmem : x.1 ∈ hList (B.tides[hr]'hh.lt) D hr (can[k]).1 (can[k]).2 := hpre.subset (List.mem_map_of_mem hx)
        refine ⟨can[k], List.getElem_mem hlt, ?_⟩
        rw [Bool.not_eq_true, List.all_eq_false]; exact ⟨x.1, hmem, by rw [hl]; decide⟩
      have hzz := hMI1.lt
      have hMk2 : Marks w.heap.size (Dd :: Ds) W := hMk1.cons rfl (fun i hi hk => (hbw.block i hi).trans ((Below.heap_setCell _ _ _ _ (fun e => by have e' : i = w.heap.size + 1 + 1 + 1 := e; subst e'; rw [hMI1.c3] at hk; cases hk)).trans hk)) (by omega) hD hK
      have hbx : Boxed W (w.heap.size + 1 + 1 + 1) 4 (.bool false) := (hbw.block _ (by omega)).trans (hMI1.result.set _)
      have hbf : Below w.heap.size w W := (hMI1.below.setCell (p := ⟨w.heap.size + 1 + 1 + 1, 0, none⟩) (by show w.heap.size ≤ w.heap.size + 1 + 1 + 1; omega) (.bool false)).trans (hbw.mono (by omega))
      gi_wp2
      refine leaves_marks (Dd :: Ds) _ hMk2 (fun W' hs => ?_)
      have hbx' : Boxed W' (w.heap.size + 1 + 1 + 1) 4 (.bool false) := hs.kept _ _ _ _ hbx
      have hc5 := hbx'.cell
      refine ⟨.bool false, ?_, ?_, hs.below (Nat.le_refl _) hbf⟩
      · simp [results, Tryd.f79, go_sem, hc5]
      · rw [hfin.out]
  · have hke : k = can.length := by omega
    have hgo2 : Hid (mustB B s load (B.tides[hr]'hh.lt) D hr can = true) := by
      have := hgo.out
      rw [hke, List.take_length] at this
      exact this
    have hk' : ¬ (k : Int) < (can.length : Int) := by omega
    clear hke
    have hbx0 := hMI.result
    have hc5 := hbx0.cell
    have hf5 := hbx0.frozen
    have hlt5 := hMI.lt
    have hbx : Boxed (wr.setCell ⟨w.heap.size + 1 + 1 + 1, 0, none⟩ (.bool true)) (w.heap.size + 1 + 1 + 1) 4 (.bool true) := hbx0.set _
    have hMk2 : Marks w.heap.size Ds (wr.setCell ⟨w.heap.size + 1 + 1 + 1, 0, none⟩ (.bool true)) := ⟨hMk.nodup, fun d hd => ⟨(hMk.at_ d hd).1, (Below.heap_setCell _ _ _ _ (fun e => by
      have e' : d = w.heap.size + 1 + 1 + 1 := e
      subst e'
      have := (hMk.at_ _ hd).2
      rw [hMI.c3] at this
      cases this)).trans (hMk.at_ d hd).2⟩⟩
    have hbf : Below w.heap.size w (wr.setCell ⟨w.heap.size + 1 + 1 + 1, 0, none⟩ (.bool true)) := hMI.below.setCell (p := ⟨w.heap.size + 1 + 1 + 1, 0, none⟩) (by show w.heap.size ≤ w.heap.size + 1 + 1 + 1; omega) (.bool true)
    gi_wp2_with fail
    refine leaves_marks Ds _ hMk2 (fun W' hs => ?_)
    have hbx' : Boxed W' (w.heap.size + 1 + 1 + 1) 4 (.bool true) := hs.kept _ _ _ _ hbx
    have hc6 := hbx'.cell
    refine ⟨.bool true, ?_, ?_, hs.below (Nat.le_refl _) hbf⟩
    · simp [results, Tryd.f79, go_sem, hc6]
    · rw [hgo2.out]
set_option maxRecDepth 100000 in
set_option maxHeartbeats 2000000 in
theorem may_in (n : Nat) (hn : 3 ≤ n) (nA : Nat) (B : Book) (tb tq : Nat) (ta : Option Addr) (tc : Nat) (sa : Option Addr) (sc m : Nat) (cb co : Nat) (ca : Option Addr) (can : List (Int × Int)) (cc : Nat) (D : Int → Int → List Int) (hr : Nat) (hh : HourOk B hr) (s load : Int)
    (hB : Sane B) (hs : s = 0 ∨ s = 1) (l0 : 0 ≤ load) (l1 : load ≤ 1000) (hok : CansOk can) (w : World) (hna : nA ≤ w.heap.size) (hT : SpansAt nA w tb tq ta B.tides) (hM : MapIn nA w m D) (hC : CansAt nA w cb co ca can) :
    CallsIn Fence.wide n Tryd.prog 122 #[calcVal B ta tc sa sc m (.slice ca can.length cc), .agg #[i64 hr, i64 s], i64 load] w (SomePost (mayB B s load (B.tides[hr]'hh.lt) D hr can) w) := by
  refine callsIn_of_wp_marks Tryd.func122 rfl trivial ?_ rfl
  simp only [Tryd.ntmps122, List.size_toArray, List.length_cons, List.length_nil, Nat.reduceAdd, Nat.reduceSub, Array.replicate_succ, Array.replicate_zero, List.push_toArray, List.append_toArray, List.nil_append, List.cons_append]
  have h1 : 1 ≤ n := by omega
  have hlen := hC.len
  gi_wp2_with fail
  have hM0 : MI w.heap.size B ta tc sa sc m (.slice ca can.length cc) hr s load false w ((((w.alloc (.cells (calcCells B ta tc sa sc m (.slice ca can.length cc)) 93)).alloc (.cells #[i64 hr, i64 s] 107)).alloc (.cells #[i64 load] 3)).alloc (.cells #[.bool false] 4)) := by
    obtain ⟨p1, p2, p3, p4, p5, p6⟩ := alloc4 w (.cells (calcCells B ta tc sa sc m (.slice ca can.length cc)) 93) (.cells #[i64 hr, i64 s] 107) (.cells #[i64 load] 3) (.cells #[.bool false] 4)
    exact ⟨p1, p3, p4, p5, p6⟩
  refine wpIn_loop (fun a wr => ∃ (k : Nat) (Ds : List Nat) (v8 v14 v15 v16 v17 v18 v19 v20 v21 v30 : Value), k ≤ can.length ∧ a = { tmps := #[calcVal B ta tc sa sc m (.slice ca can.length cc), .agg #[i64 hr, i64 s], i64 load, .pointer (some ⟨w.heap.size, 0, none⟩), .pointer (some ⟨w.heap.size + 1, 0, none⟩), .pointer (some ⟨w.heap.size + 1 + 1, 0, none⟩), .pointer (some ⟨w.heap.size + 1 + 1 + 1, 0, none⟩), undef, v8, undef, .pointer (some ⟨w.heap.size, 15, none⟩), .slice ca can.length cc, i64 can.length, i64 k, v14, v15, v16, v17, v18, v19, v20, v21, undef, undef, undef, undef, undef, undef, undef, undef, v30], defers := Ds.map mark } ∧
    Marks w.heap.size Ds wr ∧ MI w.heap.size B ta tc sa sc m (.slice ca can.length cc) hr s load false w wr ∧ Hid (mayB B s load (B.tides[hr]'hh.lt) D hr (can.take k) = false))
    (fun a _ => can.length - (intOf (a.tmps.getD 13 undef)).toNat) ?_ ?_
  · exact ⟨0, [], _, _, _, _, _, _, _, _, _, _, Nat.zero_le _, rfl, Marks.nil _ _, hM0, by simp [Hid, mayB]⟩
  clear hM0
  rintro a wr ⟨k, Ds, v8, v14, v15, v16, v17, v18, v19, v20, v21, v30, hk, rfl, hMk, hMI, hgo⟩
  by_cases hlt : k < can.length
  · have hnn := ne_nil_of_lt hlt
    have hx0 := cells_of hMI.c0
    have hx1 := cells_of hMI.c1
    have hx2 := cells_of hMI.c2
    have hz := hMI.lt
    have hz0 : w.heap.size < wr.heap.size := by omega
    have hz1 : w.heap.size + 1 < wr.heap.size := by omega
    have hz2 : w.heap.size + 1 + 1 < wr.heap.size := by omega
    have hC1 := hC.same ((Same.of_below hMI.below).mono hna)
    have hidx := idx91 (n := can.length) (c := cc) (k := k) wr (hC1.at_ hnn) hlt
    have hc1 := hC1.fst k hlt
    have hc2 := hC1.snd k hlt
    have hok1 := hok _ (List.getElem_mem hlt)
    obtain ⟨⟨g1, g2⟩, g3, g4⟩ := hok1
    gi_wp2_with (refine ⟨trivial, ?_⟩; gi_at_call 74; refine (CallsIn.mono (callsIn_wide.2 (heights_b B ta tc sa sc m ca can.length cc _ _ _ _)) ?_); rintro e w' ⟨b0, hbe, rfl, hb1, e0, e1, e2⟩)
    have hbA : Below wr.heap.size wr w' := ((Below.refl _ wr).alloc (Nat.le_refl _) _).trans (hb1.mono (by simp))
    have hMI1 := hMI.more hbA
    have hMk1 := hMk.more hbA
    have hf1 : w'.heap[wr.heap.size]? = some (.cells #[i64 (can[k]).1, i64 (can[k]).2] 99 (0, 0)) := (hb1.block _ (by simp)).trans (heap_alloc_new wr _)
    have hflt : wr.heap.size < w'.heap.size := (Array.getElem?_eq_some_iff.1 hf1).1
    have hbe' : wr.heap.size + 1 ≤ b0 := by simpa using hbe
    have hlt2 : b0 + 2 < w'.heap.size := (Array.getElem?_eq_some_iff.1 e2).1
    have hF : HF nA b0 B tb tq ta tc sa sc m ca can.length cc D hr (can[k]).1 (can[k]).2 w' := ⟨by omega, e0, e1, e2, hT.same ((Same.of_below hMI1.below).mono hna), hM.same ((Same.of_below hMI1.below).mono hna)⟩
    have hOF : ∀ {β : Type} (p : β → Prop) (w0 : World), OwnFrom w'.heap.size (fun (s : β) W => p s ∧ Below w'.heap.size w0 W ∧ w'.heap.size ≤ W.heap.size) := fun {β} p w0 s A A' row h hg hr => ⟨h.1, ownFrom_below (β := β) (Nat.le_refl _) s A A' row h.2 hg hr⟩
    clear hb1 e0 e1 e2 hbe hx0 hx1 hx2 hidx hc1 hc2 hMk hMI
    refine wpIn_rangeFunc_ownG rfl h1 (gf := 97) (lb := #[.pointer (some ⟨b0, 0, none⟩), .pointer (some ⟨b0 + 1, 0, none⟩), .pointer (some ⟨b0 + 2, 0, none⟩)]) rfl trivial (enters_of Tryd.func97 (by kernel_rfl) rfl)
      (heights_stops (n - 1) (by omega) nA b0 B tb tq ta tc sa sc m ca can.length cc D hr hh _ _ g1 g2 g3 g4 w' hF) (fun h k => Kp.trans h k) (Kp.b (by have := hF.na; omega)) (Below.refl _ _) (fun _ => rfl)
      (fun pre W => (pre.any (fun x => landsB B s load x.1 (fAt s can[k]) B.el) = false) ∧ Below w'.heap.size w' W ∧ w'.heap.size ≤ W.heap.size)
      (fun c pre W => (c = .ret ∧ ∃ x ∈ pre, landsB B s load x.1 (fAt s can[k]) B.el = true) ∧ Below w'.heap.size (w'.setCell ⟨w.heap.size + 1 + 1 + 1, 0, none⟩ (.bool true)) W ∧ w'.heap.size ≤ W.heap.size)
      (hOF _ _) (fun c => hOF _ _) ⟨rfl, Below.refl _ _, Nat.le_refl _⟩ ?a1 ?assign ?body ?done ?stop
    case assign =>
      intro l x W K hK
      gi_wp2
      exact hK
    case body =>
      rintro l pre x W ⟨hall, hbw, hsz⟩ _
      have hMW := hMI1.more hbw
      have hfW := (hbw.block _ hflt).trans hf1
      have hfl : wr.heap.size < W.heap.size := by omega
      have hy0 := cells_of hMW.c0
      have hy1 := cells_of hMW.c1
      have hy2 := cells_of hMW.c2
      have hyf := cells_of hfW
      have hyz := hMW.lt
      have hyz0 : w.heap.size < W.heap.size := by omega
      have hyz1 : w.heap.size + 1 < W.heap.size := by omega
      have hyz2 : w.heap.size + 1 + 1 < W.heap.size := by omega
      have hx := x.2
      obtain ⟨hx1, hx2⟩ := hx
      cases hl : landsB B s load x.1 (fAt s can[k]) B.el
      · have hl := Lib.hid hl
        · 
          gi_wp2_with fail
          refine qr_region (fun Wq => Below W.heap.size W Wq) (by kernel_rfl) (by kernel_rfl) (by kernel_rfl) (fun n => ⟨rfl, rfl, rfl, Nat.le_refl _, fun _ _ => rfl⟩) ?_
          refine qr_val (by rfl) ?_
          apply Exists.intro
          refine ⟨fun wq hq => ?_, ?_⟩
          · have hy0 := cells_of (hMW.more hq).c0
            have hy1 := cells_of (hMW.more hq).c1
            have hy2 := cells_of (hMW.more hq).c2
            have hyf := cells_of ((hq.block _ hfl).trans hfW)
            go_simp
            rfl
          simp only [Act.put, List.setIfInBounds_toArray, List.set_cons_zero, List.set_cons_succ]
          refine qr_val (by rfl) ?_
          apply Exists.intro
          refine ⟨fun wq hq => ?_, ?_⟩
          · have hy0 := cells_of (hMW.more hq).c0
            have hy1 := cells_of (hMW.more hq).c1
            have hy2 := cells_of (hMW.more hq).c2
            have hyf := cells_of ((hq.block _ hfl).trans hfW)
            go_simp
            rfl
          simp only [Act.put, List.setIfInBounds_toArray, List.set_cons_zero, List.set_cons_succ]
          refine qr_val (by rfl) ?_
          apply Exists.intro
          refine ⟨fun wq hq => ?_, ?_⟩
          · have hy0 := cells_of (hMW.more hq).c0
            have hy1 := cells_of (hMW.more hq).c1
            have hy2 := cells_of (hMW.more hq).c2
            have hyf := cells_of ((hq.block _ hfl).trans hfW)
            go_simp
            rfl
          simp only [Act.put, List.setIfInBounds_toArray, List.set_cons_zero, List.set_cons_succ]
          refine qr_val (by rfl) ?_
          apply Exists.intro
          refine ⟨fun wq hq => ?_, ?_⟩
          · have hy0 := cells_of (hMW.more hq).c0
            have hy1 := cells_of (hMW.more hq).c1
            have hy2 := cells_of (hMW.more hq).c2
            have hyf := cells_of ((hq.block _ hfl).trans hfW)
            go_simp
            rfl
          simp only [Act.put, List.setIfInBounds_toArray, List.set_cons_zero, List.set_cons_succ]
          refine qr_val (by rfl) ?_
          apply Exists.intro
          refine ⟨fun wq hq => ?_, ?_⟩
          · have hy0 := cells_of (hMW.more hq).c0
            have hy1 := cells_of (hMW.more hq).c1
            have hy2 := cells_of (hMW.more hq).c2
            have hyf := cells_of ((hq.block _ hfl).trans hfW)
            go_simp
            rfl
          simp only [Act.put, List.setIfInBounds_toArray, List.set_cons_zero, List.set_cons_succ]
          refine qr_call (by rfl) (.agg #[.func (.func 125) #[] #[]]) 124 #[] ?_ ?_ ?_
          · intro wq hq
            go_simp
          · intro wq hq
            refine (low_any wq).mono ?_
            rintro e w2 ⟨rfl, hb⟩
            exact ⟨rfl, hq.trans (hb.mono hq.size)⟩
          simp only [Act.put, List.setIfInBounds_toArray, List.set_cons_zero, List.set_cons_succ]
          refine qr_call (by rfl) (.bool false) 101 #[calcVal B ta tc sa sc m (.slice ca can.length cc), .agg #[i64 hr, i64 s], i64 load, i64 x.1, .agg #[i64 (can[k]).1, i64 (can[k]).2], .agg #[.func (.func 125) #[] #[]]] ?_ ?_ ?_
          · intro wq hq
            go_simp
          · intro wq hq
            refine (lands_low B ta tc sa sc m ca can.length cc hr s load x.1 (can[k]).1 (can[k]).2 hs wq hB l0 l1 (by omega) (by omega) (by omega) (by omega) (by omega) (by omega)).mono ?_
            rintro e w2 ⟨rfl, hb⟩
            exact ⟨by have := hl.out; unfold fAt at this; rw [this], hq.trans (hb.mono hq.size)⟩
          simp only [Act.put, List.setIfInBounds_toArray, List.set_cons_zero, List.set_cons_succ]
          intro w2 hq
          have hM2 := hMW.more hq
          gi_wp2_with fail
          exact ⟨KeepsFrom.of_grownBy (row := none) ⟨hq.os, hq.tape, hq.output, hq.size, fun i hi _ => hq.block i hi⟩ (fun j e => by cases e), Kp.of_below hq (by have := hF.lt; have := hF.na; omega),
            by rw [List.any_append, hall, Bool.false_or]; simpa using hl.out, hbw.trans (hq.mono hsz), Nat.le_trans hsz hq.size⟩

      · have hl := Lib.hid hl
        · 
          gi_wp2_with fail
          refine qr_region (fun Wq => Below W.heap.size W Wq) (by kernel_rfl) (by kernel_rfl) (by kernel_rfl) (fun n => ⟨rfl, rfl, rfl, Nat.le_refl _, fun _ _ => rfl⟩) ?_
          refine qr_val (by rfl) ?_
          apply Exists.intro
          refine ⟨fun wq hq => ?_, ?_⟩
          · have hy0 := cells_of (hMW.more hq).c0
            have hy1 := cells_of (hMW.more hq).c1
            have hy2 := cells_of (hMW.more hq).c2
            have hyf := cells_of ((hq.block _ hfl).trans hfW)
            go_simp
            rfl
          simp only [Act.put, List.setIfInBounds_toArray, List.set_cons_zero, List.set_cons_succ]
          refine qr_val (by rfl) ?_
          apply Exists.intro
          refine ⟨fun wq hq => ?_, ?_⟩
          · have hy0 := cells_of (hMW.more hq).c0
            have hy1 := cells_of (hMW.more hq).c1
            have hy2 := cells_of (hMW.more hq).c2
            have hyf := cells_of ((hq.block _ hfl).trans hfW)
            go_simp
            rfl
          simp only [Act.put, List.setIfInBounds_toArray, List.set_cons_zero, List.set_cons_succ]
          refine qr_val (by rfl) ?_
          apply Exists.intro
          refine ⟨fun wq hq => ?_, ?_⟩
          · have hy0 := cells_of (hMW.more hq).c0
            have hy1 := cells_of (hMW.more hq).c1
            have hy2 := cells_of (hMW.more hq).c2
            have hyf := cells_of ((hq.block _ hfl).trans hfW)
            go_simp
            rfl
          simp only [Act.put, List.setIfInBounds_toArray, List.set_cons_zero, List.set_cons_succ]
          refine qr_val (by rfl) ?_
          apply Exists.intro
          refine ⟨fun wq hq => ?_, ?_⟩
          · have hy0 := cells_of (hMW.more hq).c0
            have hy1 := cells_of (hMW.more hq).c1
            have hy2 := cells_of (hMW.more hq).c2
            have hyf := cells_of ((hq.block _ hfl).trans hfW)
            go_simp
            rfl
          simp only [Act.put, List.setIfInBounds_toArray, List.set_cons_zero, List.set_cons_succ]
          refine qr_val (by rfl) ?_
          apply Exists.intro
          refine ⟨fun wq hq => ?_, ?_⟩
          · have hy0 := cells_of (hMW.more hq).c0
            have hy1 := cells_of (hMW.more hq).c1
            have hy2 := cells_of (hMW.more hq).c2
            have hyf := cells_of ((hq.block _ hfl).trans hfW)
            go_simp
            rfl
          simp only [Act.put, List.setIfInBounds_toArray, List.set_cons_zero, List.set_cons_succ]
          refine qr_call (by rfl) (.agg #[.func (.func 125) #[] #[]]) 124 #[] ?_ ?_ ?_
          · intro wq hq
            go_simp
          · intro wq hq
            refine (low_any wq).mono ?_
            rintro e w2 ⟨rfl, hb⟩
            exact ⟨rfl, hq.trans (hb.mono hq.size)⟩
          simp only [Act.put, List.setIfInBounds_toArray, List.set_cons_zero, List.set_cons_succ]
          refine qr_call (by rfl) (.bool true) 101 #[calcVal B ta tc sa sc m (.slice ca can.length cc), .agg #[i64 hr, i64 s], i64 load, i64 x.1, .agg #[i64 (can[k]).1, i64 (can[k]).2], .agg #[.func (.func 125) #[] #[]]] ?_ ?_ ?_
          · intro wq hq
            go_simp
          · intro wq hq
            refine (lands_low B ta tc sa sc m ca can.length cc hr s load x.1 (can[k]).1 (can[k]).2 hs wq hB l0 l1 (by omega) (by omega) (by omega) (by omega) (by omega) (by omega)).mono ?_
            rintro e w2 ⟨rfl, hb⟩
            exact ⟨by have := hl.out; unfold fAt at this; rw [this], hq.trans (hb.mono hq.size)⟩
          simp only [Act.put, List.setIfInBounds_toArray, List.set_cons_zero, List.set_cons_succ]
          intro w2 hq
          have hM2 := hMW.more hq
          have hbx := hM2.result
          have hc5 := hbx.cell
          have hf5 := hbx.frozen
          have hlt5 := hM2.lt
          gi_wp2_with fail
          refine ⟨(KeepsFrom.of_grownBy (row := none) ⟨hq.os, hq.tape, hq.output, hq.size, fun i hi _ => hq.block i hi⟩ (fun j e => by cases e)).trans ((KeepsOthers.setCell _ _ _).from _), ⟨rfl, x, by simp, hl.out⟩, ?_, ?_⟩
          · exact setBoth (hbw.trans (hq.mono hsz)) _ _
          · simpa [World.setCell] using Nat.le_trans hsz hq.size

    case done =>
      rintro Dd xs W hD hxs ⟨hall, hbw, hsz⟩ hK
      have hMW := hMI1.more hbw
      have hgo2 : Hid (mayB B s load (B.tides[hr]'hh.lt) D hr (can.take (k + 1)) = false) := by
        show _ = _
        have h2 := hgo.out
        unfold mayB at h2 ⊢
        rw [List.take_succ_eq_append_getElem hlt, List.any_append, h2]
        have h3 : (hList (B.tides[hr]'hh.lt) D hr (can[k]).1 (can[k]).2).any (fun h => landsB B s load h (fAt s can[k]) B.el) = false := by
          rw [← hxs, List.any_map]; exact hall
        simp only [List.any_cons, List.any_nil, h3]; rfl
      gi_wp2
      refine ⟨⟨k + 1, Dd :: Ds, _, _, _, _, _, _, _, _, _, _, hlt, by go_num, ?_, hMW, hgo2⟩, ?_⟩
      · exact hMk1.cons rfl (fun i hi hk => (hbw.block i hi).trans hk) (by omega) hD hK
      · simp [intOf]; omega
    case stop =>
      rintro Dd c pre W hD hpre ⟨⟨rfl, x, hx, hl⟩, hbw, hsz⟩ hK
      have hfin : Hid (mayB B s load (B.tides[hr]'hh.lt) D hr can = true) := by
        show _ = _
        unfold mayB
        rw [List.any_eq_true]
        have hmem : x.1 ∈ hList (B.tides[hr]'hh.lt) D hr (can[k]).1 (can[k]).2 := hpre.subset (List.mem_map_of_mem hx)
        refine ⟨can[k], List.getElem_mem hlt, ?_⟩
        rw [List.any_eq_true]; exact ⟨x.1, hmem, hl⟩
      have hzz := hMI1.lt
      have hMk2 : Marks w.heap.size (Dd :: Ds) W := hMk1.cons rfl (fun i hi hk => (hbw.block i hi).trans ((Below.heap_setCell _ _ _ _ (fun e => by have e' : i = w.heap.size + 1 + 1 + 1 := e; subst e'; rw [hMI1.c3] at hk; cases hk)).trans hk)) (by omega) hD hK
      have hbx : Boxed W (w.heap.size + 1 + 1 + 1) 4 (.bool true) := (hbw.block _ (by omega)).trans (hMI1.result.set _)
      have hbf : Below w.heap.size w W := (hMI1.below.setCell (p := ⟨w.heap.size + 1 + 1 + 1, 0, none⟩) (by show w.heap.size ≤ w.heap.size + 1 + 1 + 1; omega) (.bool true)).trans (hbw.mono (by omega))
      gi_wp2
      refine leaves_marks (Dd :: Ds) _ hMk2 (fun W' hs => ?_)
      have hbx' : Boxed W' (w.heap.size + 1 + 1 + 1) 4 (.bool true) := hs.kept _ _ _ _ hbx
      have hc5 := hbx'.cell
      refine ⟨.bool true, ?_, ?_, hs.below (Nat.le_refl _) hbf⟩
      · simp [results, Tryd.f122, go_sem, hc5]
      · rw [hfin.out]
  · have hke : k = can.length := by omega
    have hgo2 : Hid (mayB B s load (B.tides[hr]'hh.lt) D hr can = false) := by
      have := hgo.out
      rw [hke, List.take_length] at this
      exact this
    have hk' : ¬ (k : Int) < (can.length : Int) := by omega
    clear hke
    have hbx0 := hMI.result
    have hc5 := hbx0.cell
    have hf5 := hbx0.frozen
    have hlt5 := hMI.lt
    have hbx : Boxed (wr.setCell ⟨w.heap.size + 1 + 1 + 1, 0, none⟩ (.bool false)) (w.heap.size + 1 + 1 + 1) 4 (.bool false) := hbx0.set _
    have hMk2 : Marks w.heap.size Ds (wr.setCell ⟨w.heap.size + 1 + 1 + 1, 0, none⟩ (.bool false)) := ⟨hMk.nodup, fun d hd => ⟨(hMk.at_ d hd).1, (Below.heap_setCell _ _ _ _ (fun e => by
      have e' : d = w.heap.size + 1 + 1 + 1 := e
      subst e'
      have := (hMk.at_ _ hd).2
      rw [hMI.c3] at this
      cases this)).trans (hMk.at_ d hd).2⟩⟩
    have hbf : Below w.heap.size w (wr.setCell ⟨w.heap.size + 1 + 1 + 1, 0, none⟩ (.bool false)) := hMI.below.setCell (p := ⟨w.heap.size + 1 + 1 + 1, 0, none⟩) (by show w.heap.size ≤ w.heap.size + 1 + 1 + 1; omega) (.bool false)
    gi_wp2_with fail
    refine leaves_marks Ds _ hMk2 (fun W' hs => ?_)
    have hbx' : Boxed W' (w.heap.size + 1 + 1 + 1) 4 (.bool false) := hs.kept _ _ _ _ hbx
    have hc6 := hbx'.cell
    refine ⟨.bool false, ?_, ?_, hs.below (Nat.le_refl _) hbf⟩
    · simp [results, Tryd.f122, go_sem, hc6]
    · rw [hgo2.out]
end Go.Proofs.YtkbmpkdflgimmaaDoor
