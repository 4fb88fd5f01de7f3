/- The contract of (book).some: whether an hour has a height, with some bottoms. -/
import Derived.Test.YtkbmpkdflgimmaaDoorHeights
import Derived.RangeFuncBound
namespace Go.Proofs.YtkbmpkdflgimmaaDoor
open Go.RowKit Go.Shelf
attribute [local go_sem] Oper.semAt_some

structure HourOk (B : Book) (hr : Nat) : Prop where
  lt : hr < B.tides.length
  lo : -100 ≤ B.tides[hr].lo
  sp : B.tides[hr].lo ≤ B.tides[hr].hi
  hi : B.tides[hr].hi ≤ 100

/-- The heights that there are. -/
abbrev HInt : Type := { x : Int // -100 ≤ x ∧ x ≤ 100 }
theorem heights_stops (n : Nat) (hn : 1 ≤ n) (nA b0 : Nat) (B : Book) (tb tq : Nat) (ta : Option Addr) (tc : Nat) (sa : Option Addr) (sc m : Nat) (can : Option Addr) (cn cc : Nat) (D : Int → Int → List Int) (hr : Nat) (hh : HourOk B hr) (f0 f1 : Int)
    (h3 : -100 ≤ f0) (h4 : f0 ≤ 100) (h5 : -100 ≤ f1) (h6 : f1 ≤ 100) (w : World) (hF : HF nA b0 B tb tq ta tc sa sc m can cn cc D hr f0 f1 w) :
    SeqStopsK Fence.wide n Tryd.prog 97 #[.pointer (some ⟨b0, 0, none⟩), .pointer (some ⟨b0 + 1, 0, none⟩), .pointer (some ⟨b0 + 2, 0, none⟩)] (fun x : HInt => #[i64 x.1]) (Kp nA (b0 + 1))
      (fun ys => ys.map (·.1) = hList (B.tides[hr]'hh.lt) D hr f0 f1) (fun pre => pre.map (·.1) <+: hList (B.tides[hr]'hh.lt) D hr f0 f1) (hList (B.tides[hr]'hh.lt) D hr f0 f1).length w := by
  intro l J Jx W hW hJ _ hY h0
  refine (heights1_in n hn l nA b0 B tb tq ta tc sa sc m can cn cc D hr hh.lt f0 f1 hh.lo hh.sp hh.hi h3 h4 h5 h6 W (fun p W => ∃ p' : List HInt, p'.map (·.1) = p ∧ J p' W) (fun p W => ∃ p' : List HInt, p'.map (·.1) = p ∧ Jx p' W)
    ?_ ?_ (hF.kept (Kp.of_below hW (by have := hF.lt; have := hF.na; omega))) ⟨[], rfl, h0⟩).mono ?_
  · rintro s A B' row ⟨p', e, hs⟩ hg hr
    exact ⟨p', e, hJ p' A B' row hs hg hr⟩
  · rintro pre x W1 ⟨p', e, hs⟩ hlen hx
    have := hY p' ⟨x, hx⟩ W1 hs (by rw [← e] at hlen; simpa using hlen)
    refine YieldAt.mono this ?_
    rintro e' W' (⟨h1, h2, h3⟩ | ⟨h1, h2⟩)
    · exact .inl ⟨h1, ⟨p' ++ [⟨x, hx⟩], by simp [e], h2⟩, h3⟩
    · exact .inr ⟨h1, ⟨p' ++ [⟨x, hx⟩], by simp [e], h2⟩⟩
  · rintro e' W' ⟨hv, ⟨ys, hys, p', e, hJ'⟩ | ⟨pre, hp, p', e, hJ'⟩⟩
    · exact ⟨hv, .inl ⟨p', by show _ = _; rw [e, hys], hJ'⟩⟩
    · exact ⟨hv, .inr ⟨p', by show _ <+: _; rw [e]; exact hp, hJ'⟩⟩

theorem ownFrom_below {β : Type} {n : Nat} {w0 : World} {C : Nat} (hC : n ≤ C) : OwnFrom C (fun (_ : β) W => Below n w0 W ∧ C ≤ W.heap.size) :=
  fun _ _ _ _ hs hg hr => ⟨hs.1.grown hg (Nat.le_trans hC hs.2) (fun k e => Nat.le_trans hC (hr k e).1), Nat.le_trans hs.2 hg.size⟩

def HtPost (B : Book) (ta : Option Addr) (tc : Nat) (sa : Option Addr) (sc m : Nat) (can : Option Addr) (cn cc : Nat) (hour f0 f1 : Int) (w : World) (e : Ending) (w' : World) : Prop :=
  ∃ b0, w.heap.size ≤ b0 ∧ e = .returned (.func (.func 97) #[] #[.pointer (some ⟨b0, 0, none⟩), .pointer (some ⟨b0 + 1, 0, none⟩), .pointer (some ⟨b0 + 2, 0, none⟩)]) ∧ Below w.heap.size w w' ∧
    w'.heap[b0]? = some (.cells (calcCells B ta tc sa sc m (.slice can cn cc)) 93 (0, 0)) ∧ w'.heap[b0 + 1]? = some (.cells #[i64 hour] 3 (0, 0)) ∧ w'.heap[b0 + 2]? = some (.cells #[i64 f0, i64 f1] 99 (0, 0))
theorem heights_b (B : Book) (ta : Option Addr) (tc : Nat) (sa : Option Addr) (sc m : Nat) (can : Option Addr) (cn cc : Nat) (hour f0 f1 : Int) (w : World) :
    Calls Tryd.prog 74 #[calcVal B ta tc sa sc m (.slice can cn cc), i64 hour, .agg #[i64 f0, i64 f1]] w (HtPost B ta tc sa sc m can cn cc hour f0 f1 w) := by
  refine (heights_any B ta tc sa sc m can cn cc hour f0 f1 w).mono ?_
  rintro e w' ⟨rfl, rfl⟩
  refine ⟨w.heap.size, Nat.le_refl _, rfl, (((Below.refl _ w).alloc (Nat.le_refl _) _).alloc (by simp) _).alloc (by simp; omega) _, ?_, ?_, ?_⟩
  · rw [Below.heap_alloc _ _ _ (by simp; omega), Below.heap_alloc _ _ _ (by simp)]
    exact heap_alloc_new _ _
  · rw [Below.heap_alloc _ _ _ (by simp)]
    exact heap_alloc2_new _ _ _
  · have := heap_alloc2_new (w.alloc (.cells (calcCells B ta tc sa sc m (.slice can cn cc)) 93)) (.cells #[i64 hour] 3) (.cells #[i64 f0, i64 f1] 99)
    simpa using this
theorem Boxed.ownFrom {β : Type} (C B : Nat) (t : TypeId) (v : Value) : OwnFrom C (fun (_ : β) W => Boxed W B t v) :=
  fun _ _ _ _ hs hg hr => hs.kept hg (fun e => by obtain ⟨_, o, ho, hc⟩ := hr _ e.symm; rw [hs] at ho; cases ho; cases hc)

def SomePost (v : Bool) (w : World) (e : Ending) (w' : World) : Prop := e = .returned (.bool v) ∧ Below w.heap.size w w'
/-- What stands between two rounds, where a result lies in a box. -/
def Mid (v : Bool) (b n : Nat) (w : World) (C : Nat) (W : World) : Prop := Boxed W b 4 (.bool v) ∧ Below n w W ∧ C ≤ W.heap.size
theorem Mid.ownFrom {β : Type} (p : β → Prop) (v : Bool) {b n C : Nat} {w : World} (hC : n ≤ C) : OwnFrom C (fun s W => p s ∧ Mid v b n w C W) :=
  fun s W W' row hs hg hr => ⟨hs.1, Boxed.ownFrom C b 4 (.bool v) s W W' row hs.2.1 hg hr, ownFrom_below hC s W W' row hs.2.2 hg hr⟩
theorem Mid.store {v v' : Bool} {b n C : Nat} {w W : World} (h : Mid v b n w C W) (hb : n ≤ b) : Mid v' b n w C (W.setCell ⟨b, 0, none⟩ (.bool v')) :=
  ⟨h.1.set _, h.2.1.setCell (p := ⟨b, 0, none⟩) hb _, by simpa [World.setCell] using h.2.2⟩
theorem Mid.put {v : Bool} {b n C Dd : Nat} {w W : World} (h : Mid v b n w C W) (hb : b < C) (hn : n ≤ C) (hD : C ≤ Dd) (o : Obj) : Mid v b n w C (W.putObj Dd o) :=
  ⟨h.1.kept (grownBy_putObj' W Dd o) (fun e => by cases e; omega), h.2.1.grown (grownBy_putObj' W Dd o) (Nat.le_trans hn h.2.2) (fun k e => by cases e; omega), by simpa using h.2.2⟩
set_option maxRecDepth 100000 in
set_option maxHeartbeats 1000000 in
theorem some_in (n : Nat) (hn : 3 ≤ n) (nA : Nat) (B : Book) (tb tq : Nat) (ta : Option Addr) (tc : Nat) (sa : Option Addr) (sc m : Nat) (can : Option Addr) (cn cc : Nat) (D : Int → Int → List Int) (hr : Nat) (hh : HourOk B hr) (f0 f1 : Int)
    (h3 : -100 ≤ f0) (h4 : f0 ≤ 100) (h5 : -100 ≤ f1) (h6 : f1 ≤ 100) (w : World) (hna : nA ≤ w.heap.size) (hT : SpansAt nA w tb tq ta B.tides) (hM : MapIn nA w m D) :
    CallsIn Fence.wide n Tryd.prog 96 #[calcVal B ta tc sa sc m (.slice can cn cc), i64 hr, .agg #[i64 f0, i64 f1]] w (SomePost (!(hList (B.tides[hr]'hh.lt) D hr f0 f1).isEmpty) w) := by
  refine callsIn_of_wp_marks Tryd.func96 rfl trivial ?_ rfl
  simp only [Tryd.ntmps96, List.size_toArray, List.length_cons, List.length_nil, Nat.reduceAdd, Nat.reduceSub, Array.replicate_succ, Array.replicate_zero, List.push_toArray, List.append_toArray, List.nil_append, List.cons_append]
  have h1 : 1 ≤ n := by omega
  gi_wp2_with (refine ⟨trivial, ?_⟩; gi_at_call 74; refine (CallsIn.mono (callsIn_wide.2 (heights_b B ta tc sa sc m can cn cc _ _ _ _)) ?_); rintro e w' ⟨b0, hbe, rfl, hb1, g0, g1, g2⟩)
  have hsz : w.heap.size + 3 ≤ b0 := by simp at hbe; omega
  have hb0 : Below w.heap.size w w' := ((((Below.refl _ w).alloc (Nat.le_refl _) _).alloc (by simp) _).alloc (by simp; omega) _).trans (hb1.mono (by simp; omega))
  have hr0 : Boxed w' (w.heap.size + 1 + 1) 4 (.bool false) := by
    refine (hb1.block _ (by simp)).trans ?_
    have := heap_alloc_new ((w.alloc (.cells (calcCells B ta tc sa sc m (.slice can cn cc)) 93)).alloc (.cells #[i64 f0, i64 f1] 99)) (.cells #[.bool false] 4)
    simpa using this
  have hlt2 : b0 + 2 < w'.heap.size := (Array.getElem?_eq_some_iff.1 g2).1
  have hF : HF nA b0 B tb tq ta tc sa sc m can cn cc D hr f0 f1 w' := ⟨by omega, g0, g1, g2, hT.same ((Same.of_below hb0).mono hna), hM.same ((Same.of_below hb0).mono hna)⟩
  clear hb1 g0 g1 g2 hbe
  refine wpIn_rangeFunc_ownG rfl h1 (gf := 97) (lb := #[.pointer (some ⟨b0, 0, none⟩), .pointer (some ⟨b0 + 1, 0, none⟩), .pointer (some ⟨b0 + 2, 0, none⟩)]) rfl trivial (enters_of Tryd.func97 (by kernel_rfl) rfl)
    (heights_stops (n - 1) (by omega) nA b0 B tb tq ta tc sa sc m can cn cc D hr hh f0 f1 h3 h4 h5 h6 w' hF) (fun h k => Kp.trans h k) (Kp.b (by omega)) (Below.refl _ _) (fun _ => rfl)
    (fun pre W => pre = [] ∧ Mid false (w.heap.size + 1 + 1) w.heap.size w w'.heap.size W)
    (fun c pre W => (c = .ret ∧ pre ≠ []) ∧ Mid true (w.heap.size + 1 + 1) w.heap.size w w'.heap.size W)
    (Mid.ownFrom _ _ hb0.size) (fun c => Mid.ownFrom _ _ hb0.size) ⟨rfl, hr0, hb0, Nat.le_refl _⟩ ?a1 ?assign ?body ?done ?stop
  case assign =>
    intro l x W K hK
    gi_wp2
    exact hK
  case body =>
    rintro l pre x W ⟨rfl, hM⟩ _
    have hc := hM.1.cell
    have hf := hM.1.frozen
    gi_wp2
    exact ⟨(KeepsOthers.setCell _ _ _).from _, ⟨rfl, by simp⟩, hM.store (by omega)⟩
  case done =>
    rintro Dd xs W hD hxs ⟨rfl, hM⟩ hK
    have hM' := Lib.hid (hM.store (v' := false) (by omega))
    have hc := hM.1.cell
    have hf := hM.1.frozen
    clear hM
    gi_wp2
    have hK' := (KeepsOthers.setCell W ⟨w.heap.size + 1 + 1, 0, none⟩ (.bool false)).same Dd _ hK rfl
    have hM2 := hM'.out.put (by omega) hb0.size hD (.deferred none)
    refine ⟨by simp, .inl ⟨_, _, rfl, run_takeDeferred hK', ?_⟩⟩
    have hc5 := hM2.1.cell
    refine ⟨.bool false, ?_, ?_, hM2.2.1⟩
    · simp [results, Tryd.f96, go_sem, hc5]
    · rw [← hxs]; rfl
  case stop =>
    rintro Dd c pre W hD hpre ⟨⟨rfl, hne⟩, hM⟩ hK
    gi_wp2
    have hM2 := hM.put (by omega) hb0.size hD (.deferred none)
    refine ⟨by simp, .inl ⟨_, _, rfl, run_takeDeferred hK, ?_⟩⟩
    have hc5 := hM2.1.cell
    refine ⟨.bool true, ?_, ?_, hM2.2.1⟩
    · simp [results, Tryd.f96, go_sem, hc5]
    · have : (hList (B.tides[hr]'hh.lt) D hr f0 f1).isEmpty = false := by
        cases h : hList (B.tides[hr]'hh.lt) D hr f0 f1 with
        | nil => rw [h] at hpre; exact absurd (List.map_eq_nil_iff.1 (List.prefix_nil.1 hpre)) hne
        | cons x l => rfl
      rw [this]; rfl
end Go.Proofs.YtkbmpkdflgimmaaDoor
