/- The heights of an hour: the iterator that heights hands back. -/
import Derived.Test.YtkbmpkdflgimmaaDoorRight
import Derived.RangeFuncNested
import Derived.RangeFuncCalls
import Derived.RangeFuncLeaves
import Derived.Shelf.Abstract
import Derived.TacticsInMore
import Derived.LoopNIn
import Derived.LoopIn
import Derived.OwnWalkIn
namespace Go.Proofs.YtkbmpkdflgimmaaDoor
open Go.RowKit Go.Shelf
attribute [local go_sem] Oper.semAt_some

theorem heights_any (B : Book) (ta : Option Addr) (tc : Nat) (sa : Option Addr) (sc m : Nat) (can : Option Addr) (cn cc : Nat) (hour f0 f1 : Int) (w : World) :
    Calls Tryd.prog 74 #[calcVal B ta tc sa sc m (.slice can cn cc), i64 hour, .agg #[i64 f0, i64 f1]] w fun e w' =>
      e = .returned (.func (.func 97) #[] #[.pointer (some ⟨w.heap.size, 0, none⟩), .pointer (some ⟨w.heap.size + 1, 0, none⟩), .pointer (some ⟨w.heap.size + 2, 0, none⟩)]) ∧
      ((w.alloc (.cells (calcCells B ta tc sa sc m (.slice can cn cc)) 93)).alloc (.cells #[i64 hour] 3)).alloc (.cells #[i64 f0, i64 f1] 99) = w' := by
  go_enter Tryd.func74, Tryd.ntmps74
  go_wp2
  go_ret
  exact ⟨rfl, rfl⟩
/-- The heights of a span with which all soundings of the hour are right. -/
def preL (s : Span) (D : Int → Int → List Int) (hour f0 f1 : Int) (k : Nat) : List Int := ((List.range k).map fun (n : Nat) => s.lo + (n : Int)).filter fun h => rightB D hour h f0 f1
def hList (s : Span) (D : Int → Int → List Int) (hour f0 f1 : Int) : List Int := preL s D hour f0 f1 (s.hi - s.lo + 1).toNat
theorem preL_succ (s : Span) (D hour f0 f1) (k : Nat) : preL s D hour f0 f1 (k + 1) = preL s D hour f0 f1 k ++ (if rightB D hour (s.lo + k) f0 f1 then [s.lo + k] else []) := by
  simp only [preL, List.range_succ, List.map_append, List.filter_append, List.map_cons, List.map_nil, List.filter_cons, List.filter_nil]
theorem preL_prefix (s : Span) (D hour f0 f1) (k d : Nat) : preL s D hour f0 f1 k <+: preL s D hour f0 f1 (k + d) := by
  induction d with
  | zero => exact List.prefix_refl _
  | succ d ih => rw [← Nat.add_assoc, preL_succ]; exact ih.trans (List.prefix_append _ _)

/-- What the body of a round must keep: what lay below nA; block bH; all cells that are no whole numbers and no slice of such. -/
structure Kp (nA bH : Nat) (W W' : World) : Prop where
  size : W.heap.size ≤ W'.heap.size
  old : ∀ k, k < nA → W'.heap[k]? = W.heap[k]?
  keep : ∀ k c t z, W.heap[k]? = some (.cells c t z) → (k = bH ∨ (t ≠ 3 ∧ t ≠ 40)) → W'.heap[k]? = some (.cells c t z)
theorem Kp.refl (nA bH : Nat) (W : World) : Kp nA bH W W := ⟨Nat.le_refl _, fun _ _ => rfl, fun _ _ _ _ h _ => h⟩
theorem Kp.trans {nA bH : Nat} {A B C : World} (h : Kp nA bH A B) (k : Kp nA bH B C) : Kp nA bH A C :=
  ⟨Nat.le_trans h.size k.size, fun i hi => (k.old i hi).trans (h.old i hi), fun i c t z hi ht => k.keep i c t z (h.keep i c t z hi ht) ht⟩
theorem Kp.of_below {nA bH : Nat} {W W' : World} (h : Below W.heap.size W W') (hn : nA ≤ W.heap.size) : Kp nA bH W W' :=
  ⟨h.size, fun k hk => h.block k (by omega), fun k c t z hk _ => (h.block k (Array.getElem?_eq_some_iff.1 hk).1).trans hk⟩
theorem Kp.b {nA bH : Nat} {w : World} (hn : nA ≤ w.heap.size) (W : World) (l : Nat) (o o' : Obj) (hl : w.heap.size ≤ l) (h : W.heap[l]? = some o) (ho : o.isCells = false) (_ : o.isWalk = false) : Kp nA bH W (W.putObj l o') :=
  ⟨by simp, fun k hk => World.putObj_heap_other (by omega), fun k c t z hk _ => (World.putObj_heap_other (fun e => by subst e; rw [h] at hk; cases hk; cases ho)).trans hk⟩
theorem Kp.same {nA bH : Nat} {W W' : World} (h : Kp nA bH W W') : Same nA W W' := ⟨h.size, h.old⟩

/-- What the iterator's boxes hold, and what it reads. -/
structure HF (nA b0 : Nat) (B : Book) (tb tq : Nat) (ta : Option Addr) (tc : Nat) (sa : Option Addr) (sc m : Nat) (can : Option Addr) (cn cc : Nat) (D : Int → Int → List Int) (hour f0 f1 : Int) (W : World) : Prop where
  na : nA ≤ b0
  c0 : W.heap[b0]? = some (.cells (calcCells B ta tc sa sc m (.slice can cn cc)) 93 (0, 0))
  c1 : W.heap[b0 + 1]? = some (.cells #[i64 hour] 3 (0, 0))
  c2 : W.heap[b0 + 2]? = some (.cells #[i64 f0, i64 f1] 99 (0, 0))
  tides : SpansAt nA W tb tq ta B.tides
  map : MapIn nA W m D
theorem HF.kept {nA b0 : Nat} {B : Book} {tb tq : Nat} {ta : Option Addr} {tc : Nat} {sa : Option Addr} {sc m : Nat} {can : Option Addr} {cn cc : Nat} {D : Int → Int → List Int} {hour f0 f1 : Int} {W W' : World}
    (h : HF nA b0 B tb tq ta tc sa sc m can cn cc D hour f0 f1 W) (k : Kp nA (b0 + 1) W W') : HF nA b0 B tb tq ta tc sa sc m can cn cc D hour f0 f1 W' :=
  ⟨h.na, k.keep _ _ _ _ h.c0 (.inr (by decide)), k.keep _ _ _ _ h.c1 (.inl rfl), k.keep _ _ _ _ h.c2 (.inr (by decide)), h.tides.same k.same, h.map.same k.same⟩
theorem HF.lt {nA b0 : Nat} {B : Book} {tb tq : Nat} {ta : Option Addr} {tc : Nat} {sa : Option Addr} {sc m : Nat} {can : Option Addr} {cn cc : Nat} {D : Int → Int → List Int} {hour f0 f1 : Int} {W : World}
    (h : HF nA b0 B tb tq ta tc sa sc m can cn cc D hour f0 f1 W) : b0 + 2 < W.heap.size := (Array.getElem?_eq_some_iff.1 h.c2).1
theorem cells_of {W : World} {b : Nat} {c : Array Value} {t : TypeId} {z : Nat × Nat} (h : W.heap[b]? = some (.cells c t z)) (j : Nat) : W.cell? ⟨b, j, none⟩ = c[j]? := cell_of_row W b j c t z h

set_option maxRecDepth 100000 in
set_option maxHeartbeats 1000000 in
theorem heights1_in (n : Nat) (hn : 1 ≤ n) (l nA b0 : Nat) (B : Book) (tb tq : Nat) (ta : Option Addr) (tc : Nat) (sa : Option Addr) (sc m : Nat) (can : Option Addr) (cn cc : Nat) (D : Int → Int → List Int) (hr : Nat) (hlt : hr < B.tides.length) (f0 f1 : Int)
    (hlo : -100 ≤ B.tides[hr].lo) (hsp : B.tides[hr].lo ≤ B.tides[hr].hi) (hhi : B.tides[hr].hi ≤ 100) (h3 : -100 ≤ f0) (h4 : f0 ≤ 100) (h5 : -100 ≤ f1) (h6 : f1 ≤ 100)
    (W : World) (J Jx : List Int → World → Prop) (hJ : AbidesFrom W.heap.size J)
    (hY : ∀ pre x W1, J pre W1 → pre.length < (hList B.tides[hr] D hr f0 f1).length → -100 ≤ x ∧ x ≤ 100 → YieldAt Fence.wide (n - 1) Tryd.prog l #[i64 x] W1 fun e W' =>
      (e = .returned (.bool true) ∧ J (pre ++ [x]) W' ∧ Kp nA (b0 + 1) W1 W') ∨ (e = .returned (.bool false) ∧ Jx (pre ++ [x]) W'))
    (hF : HF nA b0 B tb tq ta tc sa sc m can cn cc D hr f0 f1 W) (h0 : J [] W) :
    CallsIn Fence.wide n Tryd.prog 97 #[.func (.yield l) #[] #[], .pointer (some ⟨b0, 0, none⟩), .pointer (some ⟨b0 + 1, 0, none⟩), .pointer (some ⟨b0 + 2, 0, none⟩)] W fun e W' => (∃ v, e = .returned v) ∧
      ((∃ ys, ys = hList B.tides[hr] D hr f0 f1 ∧ J ys W') ∨ (∃ pre, pre <+: hList B.tides[hr] D hr f0 f1 ∧ Jx pre W')) := by
  refine callsIn_of_wp Tryd.func97 rfl trivial ?_ rfl
  simp only [Tryd.ntmps97, List.size_toArray, List.length_cons, List.length_nil, Nat.reduceAdd, Nat.reduceSub, Array.replicate_succ, Array.replicate_zero, List.push_toArray, List.append_toArray, List.nil_append, List.cons_append]
  have hx0 := cells_of hF.c0
  have hx1 := cells_of hF.c1
  have hx2 := cells_of hF.c2
  have ht1 := hF.tides.len
  have hidx := idx22 (n := B.tides.length) (c := tc) (k := hr) W (hF.tides.at_ (ne_nil_of_lt hlt)) hlt
  have hlo' := hF.tides.lo hr hlt
  have hhi' := hF.tides.hi hr hlt
  have hmf : ∀ (fn : Fn) (first cap : Array Value) (w : World), (Instr.makeFunc fn first cap).run Tryd.prog w = .ok (.func fn first cap) w := fun _ _ _ _ => rfl
  have hb2 := hF.lt
  have hb1 : b0 + 1 < W.heap.size := by omega
  have hb0 : b0 < W.heap.size := by omega
  have hS0 : (W.alloc (.cells #[i64 B.tides[hr].lo, i64 B.tides[hr].hi] 24)).heap[W.heap.size]? = some (.cells #[i64 B.tides[hr].lo, i64 B.tides[hr].hi] 24 (0, 0)) := heap_alloc_new W _
  have hF0 := hF.kept (Kp.of_below ((Below.refl W.heap.size W).alloc (Nat.le_refl _) (.cells #[i64 B.tides[hr].lo, i64 B.tides[hr].hi] 24)) (by have := hF.lt; have := hF.na; omega))
  have hJ0 := hJ _ _ _ none h0 (World.grownBy_alloc W (.cells #[i64 B.tides[hr].lo, i64 B.tides[hr].hi] 24) none) (fun r e => by cases e)
  refine wpIn_wide.2 (wp_scope_straight ((wpIn_wide (n := n)).1 ?_))
  gi_wp2_with (refine wpIn_label ?_)
  gi_loopw [22] (fun i wr => ∃ k : Nat, k ≤ (B.tides[hr].hi - B.tides[hr].lo + 1).toNat ∧ i = .int .i64 k ∧ HF nA b0 B tb tq ta tc sa sc m can cn cc D hr f0 f1 wr ∧ W.heap.size < wr.heap.size ∧ wr.heap[W.heap.size]? = some (.cells #[i64 B.tides[hr].lo, i64 B.tides[hr].hi] 24 (0, 0)) ∧ J (preL B.tides[hr] D hr f0 f1 k) wr)
    (fun i _ => (B.tides[hr].hi - B.tides[hr].lo + 1).toNat - (intOf i).toNat)
  case atStart => exact ⟨0, Nat.zero_le _, rfl, hF0, by simp, hS0, hJ0⟩
  case round =>
    clear hx0 hx1 hx2 hidx hlo' hhi' hF0 hS0 hJ0
    obtain ⟨k, hk, rfl, hF1, hz, hS1, hJ1⟩ := hrel
    have hx0 := cells_of hF1.c0
    have hx1 := cells_of hF1.c1
    have hx2 := cells_of hF1.c2
    have hxs := cells_of hS1
    by_cases hkl : k < (B.tides[hr].hi - B.tides[hr].lo + 1).toNat
    · have hkl' : (k : Int) < B.tides[hr].hi - B.tides[hr].lo + 1 := by omega
      have hstep := Lib.hid (preL_succ B.tides[hr] D hr f0 f1 k)
      have hpre := Lib.hid (preL_prefix B.tides[hr] D hr f0 f1 (k + 1) ((B.tides[hr].hi - B.tides[hr].lo + 1).toNat - (k + 1)))
      have hwr := hF1.lt
      have hna := hF1.na
      have hbx0 : b0 < wr.heap.size := by omega
      have hbx1 : b0 + 1 < wr.heap.size := by omega
      cases hrt : rightB D hr (B.tides[hr].lo + (k : Int)) f0 f1
      · have hrt := Lib.hid hrt
        have heq : Hid (preL B.tides[hr] D hr f0 f1 (k + 1) = preL B.tides[hr] D hr f0 f1 k) := by
          show _ = _
          rw [hstep.out, hrt.out]; simp
        gi_wp2_with (refine ⟨trivial, ?_⟩; gi_at_call 98; refine (CallsIn.mono (callsIn_wide.2 (right_any B ta tc sa sc m can cn cc D _ _ _ _ nA _ hF1.map (by omega) (by omega) (by omega) (by omega) (by omega) (by omega) (by omega))) ?_); rintro e w' ⟨rfl, hb⟩; rw [hrt.out]; have hF2 := hF1.kept (Kp.of_below hb (by omega)); have hS2 := (hb.block _ hz).trans hS1; have hz2 : W.heap.size < w'.heap.size := Nat.lt_of_lt_of_le hz hb.size; have hx20 := cells_of hF2.c0; have hx21 := cells_of hF2.c1; have hx22 := cells_of hF2.c2; have hx2s := cells_of hS2; have hJ2 := hJ _ _ _ none hJ1 ⟨hb.os, hb.tape, hb.output, hb.size, fun i hi _ => hb.block i hi⟩ (fun r e => by cases e))
        go_roundw
        case rel => exact ⟨k + 1, by omega, by go_num, by assumption, by assumption, by assumption, by rw [heq.out]; assumption⟩
        case measure => simp [intOf]; omega
      · have hrt := Lib.hid hrt
        have heq : Hid (preL B.tides[hr] D hr f0 f1 (k + 1) = preL B.tides[hr] D hr f0 f1 k ++ [B.tides[hr].lo + (k : Int)]) := by
          show _ = _
          rw [hstep.out, hrt.out]; simp
        have hpl : Hid (preL B.tides[hr] D hr f0 f1 k ++ [B.tides[hr].lo + (k : Int)] <+: hList B.tides[hr] D hr f0 f1) := by
          show _ <+: _
          rw [← heq.out]
          have := hpre.out
          rwa [show k + 1 + ((B.tides[hr].hi - B.tides[hr].lo + 1).toNat - (k + 1)) = (B.tides[hr].hi - B.tides[hr].lo + 1).toNat by omega] at this
        have hlen : (preL B.tides[hr] D hr f0 f1 k).length < (hList B.tides[hr] D hr f0 f1).length := by
          have := hpl.out.length_le
          simp at this; omega
        gi_wp2_with (refine ⟨trivial, ?_⟩; gi_at_call 98; refine (CallsIn.mono (callsIn_wide.2 (right_any B ta tc sa sc m can cn cc D _ _ _ _ nA _ hF1.map (by omega) (by omega) (by omega) (by omega) (by omega) (by omega) (by omega))) ?_); rintro e w' ⟨rfl, hb⟩; rw [hrt.out]; have hF2 := hF1.kept (Kp.of_below hb (by omega)); have hS2 := (hb.block _ hz).trans hS1; have hz2 : W.heap.size < w'.heap.size := Nat.lt_of_lt_of_le hz hb.size; have hx20 := cells_of hF2.c0; have hx21 := cells_of hF2.c1; have hx22 := cells_of hF2.c2; have hx2s := cells_of hS2; have hJ2 := hJ _ _ _ none hJ1 ⟨hb.os, hb.tape, hb.output, hb.size, fun i hi _ => hb.block i hi⟩ (fun r e => by cases e); obtain ⟨fn, tmps, assign, body, hy, hR⟩ := hY _ (B.tides[hr].lo + (k : Int)) _ hJ2 hlen ⟨by omega, by omega⟩; have hR := Lib.hid hR)
        refine Hid.out (by assumption : Hid (RoundIn _ _ _ _ _ _ _ _ _ _)) |>.mono ?_
        rintro e W3 (⟨rfl, hJ3, hk3⟩ | ⟨rfl, hJx3⟩)
        · gi_wp2_with fail
          go_roundw
          case rel => exact ⟨k + 1, by omega, by go_num, HF.kept (by assumption) hk3, Nat.lt_of_lt_of_le (by assumption) hk3.size, hk3.keep _ _ _ _ (by assumption) (.inr (by decide)), by rw [heq.out]; exact hJ3⟩
          case measure => simp [intOf]; omega
        · gi_wp2_with fail
          try rw [Exit.noGoto_ret]
          refine bodyPost_ret (results_none rfl _ _ _) rfl ?_
          exact ⟨⟨_, rfl⟩, .inr ⟨_, hpl.out, hJx3⟩⟩
    · have hk' : k = (B.tides[hr].hi - B.tides[hr].lo + 1).toNat := by omega
      have hkl' : ¬ (k : Int) < B.tides[hr].hi - B.tides[hr].lo + 1 := by omega
      have hfin : Hid (J (hList B.tides[hr] D hr f0 f1) wr) := by
        show J _ _
        rw [← show preL B.tides[hr] D hr f0 f1 k = hList B.tides[hr] D hr f0 f1 by rw [hk']; rfl]
        exact hJ1
      clear hk'
      gi_wp2_with fail
      go_end0
      exact ⟨⟨_, rfl⟩, .inl hfin.out⟩
end Go.Proofs.YtkbmpkdflgimmaaDoor
