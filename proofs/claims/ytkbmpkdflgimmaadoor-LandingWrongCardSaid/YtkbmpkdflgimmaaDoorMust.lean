/- The contracts of (book).must and (book).may. -/
import Derived.Test.YtkbmpkdflgimmaaDoorCans
namespace Go.Proofs.YtkbmpkdflgimmaaDoor
open Go.RowKit Go.Shelf
attribute [local go_sem] Oper.semAt_some
theorem setBoth {n : Nat} {A A' : World} (h : Below n A A') (p : Addr) (v : Value) : Below n (A.setCell p v) (A'.setCell p v) := by
  refine ⟨h.os, h.tape, h.output, by simpa [World.setCell] using h.size, fun k hk => ?_⟩
  have := h.block k hk
  simp only [World.setCell, Array.getElem?_modify, this]
set_option maxRecDepth 100000 in
set_option maxHeartbeats 2000000 in
theorem must_in (n : Nat) (hn : 3 ≤ n) (nA : Nat) (B : Book) (tb tq : Nat) (ta : Option Addr) (tc : Nat) (sa : Option Addr) (sc m : Nat) (cb co : Nat) (ca : Option Addr) (can : List (Int × Int)) (cc : Nat) (D : Int → Int → List Int) (hr : Nat) (hh : HourOk B hr) (s load : Int)
    (hB : Sane B) (hs : s = 0 ∨ s = 1) (l0 : 0 ≤ load) (l1 : load ≤ 1000) (hok : CansOk can) (w : World) (hna : nA ≤ w.heap.size) (hT : SpansAt nA w tb tq ta B.tides) (hM : MapIn nA w m D) (hC : CansAt nA w cb co ca can) :
    CallsIn Fence.wide n Tryd.prog 79 #[calcVal B ta tc sa sc m (.slice ca can.length cc), .agg #[i64 hr, i64 s], i64 load] w (SomePost (mustB B s load (B.tides[hr]'hh.lt) D hr can) w) := by
  refine callsIn_of_wp_marks Tryd.func79 rfl trivial ?_ rfl
  simp only [Tryd.ntmps79, List.size_toArray, List.length_cons, List.length_nil, Nat.reduceAdd, Nat.reduceSub, Array.replicate_succ, Array.replicate_zero, List.push_toArray, List.append_toArray, List.nil_append, List.cons_append]
  have h1 : 1 ≤ n := by omega
  have hlen := hC.len
  gi_wp2_with fail
  have hM0 : MI w.heap.size B ta tc sa sc m (.slice ca can.length cc) hr s load false w ((((w.alloc (.cells (calcCells B ta tc sa sc m (.slice ca can.length cc)) 93)).alloc (.cells #[i64 hr, i64 s] 107)).alloc (.cells #[i64 load] 3)).alloc (.cells #[.bool false] 4)) := by
    obtain ⟨p1, p2, p3, p4, p5, p6⟩ := alloc4 w (.cells (calcCells B ta tc sa sc m (.slice ca can.length cc)) 93) (.cells #[i64 hr, i64 s] 107) (.cells #[i64 load] 3) (.cells #[.bool false] 4)
    exact ⟨p1, p3, p4, p5, p6⟩
  refine wpIn_loop (fun a wr => ∃ (k : Nat) (Ds : List Nat) (v8 v14 v15 v16 v17 v18 v19 v20 v21 v31 : Value), k ≤ can.length ∧ a = { tmps := #[calcVal B ta tc sa sc m (.slice ca can.length cc), .agg #[i64 hr, i64 s], i64 load, .pointer (some ⟨w.heap.size, 0, none⟩), .pointer (some ⟨w.heap.size + 1, 0, none⟩), .pointer (some ⟨w.heap.size + 1 + 1, 0, none⟩), .pointer (some ⟨w.heap.size + 1 + 1 + 1, 0, none⟩), undef, v8, undef, .pointer (some ⟨w.heap.size, 15, none⟩), .slice ca can.length cc, i64 can.length, i64 k, v14, v15, v16, v17, v18, v19, v20, v21, undef, undef, undef, undef, undef, undef, undef, undef, undef, v31], defers := Ds.map mark } ∧
    Marks w.heap.size Ds wr ∧ MI w.heap.size B ta tc sa sc m (.slice ca can.length cc) hr s load false w wr ∧ Hid (mustB B s load (B.tides[hr]'hh.lt) D hr (can.take k) = true))
    (fun a _ => can.length - (intOf (a.tmps.getD 13 undef)).toNat) ?_ ?_
  · exact ⟨0, [], _, _, _, _, _, _, _, _, _, _, Nat.zero_le _, rfl, Marks.nil _ _, hM0, by simp [Hid, mustB]⟩
  clear hM0
  rintro a wr ⟨k, Ds, v8, v14, v15, v16, v17, v18, v19, v20, v21, v31, hk, rfl, hMk, hMI, hgo⟩
  by_cases hlt : k < can.length
  · have hnn := ne_nil_of_lt hlt
    have hx0 := cells_of hMI.c0
    have hx1 := cells_of hMI.c1
    have hx2 := cells_of hMI.c2
    have hz := hMI.lt
    have hz0 : w.heap.size < wr.heap.size := by omega
    have hz1 : w.heap.size + 1 < wr.heap.size := by omega
    have hz2 : w.heap.size + 1 + 1 < wr.heap.size := by omega
    have hC1 := hC.same ((Same.of_below hMI.below).mono hna)
    have hidx := idx91 (n := can.length) (c := cc) (k := k) wr (hC1.at_ hnn) hlt
    have hc1 := hC1.fst k hlt
    have hc2 := hC1.snd k hlt
    have hok1 := hok _ (List.getElem_mem hlt)
    obtain ⟨⟨g1, g2⟩, g3, g4⟩ := hok1
    gi_wp2_with (refine ⟨trivial, ?_⟩; gi_at_call 74; refine (CallsIn.mono (callsIn_wide.2 (heights_b B ta tc sa sc m ca can.length cc _ _ _ _)) ?_); rintro e w' ⟨b0, hbe, rfl, hb1, e0, e1, e2⟩)
    have hbA : Below wr.heap.size wr w' := ((Below.refl _ wr).alloc (Nat.le_refl _) _).trans (hb1.mono (by simp))
    have hMI1 := hMI.more hbA
    have hMk1 := hMk.more hbA
    have hf1 : w'.heap[wr.heap.size]? = some (.cells #[i64 (can[k]).1, i64 (can[k]).2] 99 (0, 0)) := (hb1.block _ (by simp)).trans (heap_alloc_new wr _)
    have hflt : wr.heap.size < w'.heap.size := (Array.getElem?_eq_some_iff.1 hf1).1
    have hbe' : wr.heap.size + 1 ≤ b0 := by simpa using hbe
    have hlt2 : b0 + 2 < w'.heap.size := (Array.getElem?_eq_some_iff.1 e2).1
    have hF : HF nA b0 B tb tq ta tc sa sc m ca can.length cc D hr (can[k]).1 (can[k]).2 w' := ⟨by omega, e0, e1, e2, hT.same ((Same.of_below hMI1.below).mono hna), hM.same ((Same.of_below hMI1.below).mono hna)⟩
    have hOF : ∀ {β : Type} (p : β → Prop) (w0 : World), OwnFrom w'.heap.size (fun (s : β) W => p s ∧ Below w'.heap.size w0 W ∧ w'.heap.size ≤ W.heap.size) := fun {β} p w0 s A A' row h hg hr => ⟨h.1, ownFrom_below (β := β) (Nat.le_refl _) s A A' row h.2 hg hr⟩
    clear hb1 e0 e1 e2 hbe hx0 hx1 hx2 hidx hc1 hc2 hMk hMI
    refine wpIn_rangeFunc_ownG rfl h1 (gf := 97) (lb := #[.pointer (some ⟨b0, 0, none⟩), .pointer (some ⟨b0 + 1, 0, none⟩), .pointer (some ⟨b0 + 2, 0, none⟩)]) rfl trivial (enters_of Tryd.func97 (by kernel_rfl) rfl)
      (heights_stops (n - 1) (by omega) nA b0 B tb tq ta tc sa sc m ca can.length cc D hr hh _ _ g1 g2 g3 g4 w' hF) (fun h k => Kp.trans h k) (Kp.b (by have := hF.na; omega)) (Below.refl _ _) (fun _ => rfl)
      (fun pre W => (pre.all (fun x => landsB B s load x.1 (fAt s can[k]) B.eh) = true) ∧ Below w'.heap.size w' W ∧ w'.heap.size ≤ W.heap.size)
      (fun c pre W => (c = .ret ∧ ∃ x ∈ pre, landsB B s load x.1 (fAt s can[k]) B.eh = false) ∧ Below w'.heap.size (w'.setCell ⟨w.heap.size + 1 + 1 + 1, 0, none⟩ (.bool false)) W ∧ w'.heap.size ≤ W.heap.size)
      (hOF _ _) (fun c => hOF _ _) ⟨rfl, Below.refl _ _, Nat.le_refl _⟩ ?a1 ?assign ?body ?done ?stop
    case assign =>
      intro l x W K hK
      gi_wp2
      exact hK
    case body =>
      rintro l pre x W ⟨hall, hbw, hsz⟩ _
      have hMW := hMI1.more hbw
      have hfW := (hbw.block _ hflt).trans hf1
      have hfl : wr.heap.size < W.heap.size := by omega
      have hy0 := cells_of hMW.c0
      have hy1 := cells_of hMW.c1
      have hy2 := cells_of hMW.c2
      have hyf := cells_of hfW
      have hyz := hMW.lt
      have hyz0 : w.heap.size < W.heap.size := by omega
      have hyz1 : w.heap.size + 1 < W.heap.size := by omega
      have hyz2 : w.heap.size + 1 + 1 < W.heap.size := by omega
      have hx := x.2
      obtain ⟨hx1, hx2⟩ := hx
      cases hl : landsB B s load x.1 (fAt s can[k]) B.eh
      · have hl := Lib.hid hl
        · 
          gi_wp2_with fail
          refine qr_region (fun Wq => Below W.heap.size W Wq) (by kernel_rfl) (by kernel_rfl) (by kernel_rfl) (fun n => ⟨rfl, rfl, rfl, Nat.le_refl _, fun _ _ => rfl⟩) ?_
          refine qr_val (by rfl) ?_
          apply Exists.intro
          refine ⟨fun wq hq => ?_, ?_⟩
          · have hy0 := cells_of (hMW.more hq).c0
            have hy1 := cells_of (hMW.more hq).c1
            have hy2 := cells_of (hMW.more hq).c2
            have hyf := cells_of ((hq.block _ hfl).trans hfW)
            go_simp
            rfl
          simp only [Act.put, List.setIfInBounds_toArray, List.set_cons_zero, List.set_cons_succ]
          refine qr_val (by rfl) ?_
          apply Exists.intro
          refine ⟨fun wq hq => ?_, ?_⟩
          · have hy0 := cells_of (hMW.more hq).c0
            have hy1 := cells_of (hMW.more hq).c1
            have hy2 := cells_of (hMW.more hq).c2
            have hyf := cells_of ((hq.block _ hfl).trans hfW)
            go_simp
            rfl
          simp only [Act.put, List.setIfInBounds_toArray, List.set_cons_zero, List.set_cons_succ]
          refine qr_val (by rfl) ?_
          apply Exists.intro
          refine ⟨fun wq hq => ?_, ?_⟩
          · have hy0 := cells_of (hMW.more hq).c0
            have hy1 := cells_of (hMW.more hq).c1
            have hy2 := cells_of (hMW.more hq).c2
            have hyf := cells_of ((hq.block _ hfl).trans hfW)
            go_simp
            rfl
          simp only [Act.put, List.setIfInBounds_toArray, List.set_cons_zero, List.set_cons_succ]
          refine qr_val (by rfl) ?_
          apply Exists.intro
          refine ⟨fun wq hq => ?_, ?_⟩
          · have hy0 := cells_of (hMW.more hq).c0
            have hy1 := cells_of (hMW.more hq).c1
            have hy2 := cells_of (hMW.more hq).c2
            have hyf := cells_of ((hq.block _ hfl).trans hfW)
            go_simp
            rfl
          simp only [Act.put, List.setIfInBounds_toArray, List.set_cons_zero, List.set_cons_succ]
          refine qr_val (by rfl) ?_
          apply Exists.intro
          refine ⟨fun wq hq => ?_, ?_⟩
          · have hy0 := cells_of (hMW.more hq).c0
            have hy1 := cells_of (hMW.more hq).c1
            have hy2 := cells_of (hMW.more hq).c2
            have hyf := cells_of ((hq.block _ hfl).trans hfW)
            go_simp
            rfl
          simp only [Act.put, List.setIfInBounds_toArray, List.set_cons_zero, List.set_cons_succ]
          refine qr_call (by rfl) (.agg #[.func (.func 106) #[] #[]]) 102 #[] ?_ ?_ ?_
          · intro wq hq
            go_simp
          · intro wq hq
            refine (high_any wq).mono ?_
            rintro e w2 ⟨rfl, hb⟩
            exact ⟨rfl, hq.trans (hb.mono hq.size)⟩
          simp only [Act.put, List.setIfInBounds_toArray, List.set_cons_zero, List.set_cons_succ]
          refine qr_call (by rfl) (.bool false) 101 #[calcVal B ta tc sa sc m (.slice ca can.length cc), .agg #[i64 hr, i64 s], i64 load, i64 x.1, .agg #[i64 (can[k]).1, i64 (can[k]).2], .agg #[.func (.func 106) #[] #[]]] ?_ ?_ ?_
          · intro wq hq
            go_simp
          · intro wq hq
            refine (lands_high B ta tc sa sc m ca can.length cc hr s load x.1 (can[k]).1 (can[k]).2 hs wq hB l0 l1 (by omega) (by omega) (by omega) (by omega) (by omega) (by omega)).mono ?_
            rintro e w2 ⟨rfl, hb⟩
            exact ⟨by have := hl.out; unfold fAt at this; rw [this], hq.trans (hb.mono hq.size)⟩
          simp only [Act.put, List.setIfInBounds_toArray, List.set_cons_zero, List.set_cons_succ]
          refine qr_val (by rfl) ⟨.bool true, fun wq hq => by go_simp, ?_⟩
          simp only [Act.put, List.setIfInBounds_toArray, List.set_cons_zero, List.set_cons_succ]
          intro w2 hq
          have hM2 := hMW.more hq
          have hbx := hM2.result
          have hc5 := hbx.cell
          have hf5 := hbx.frozen
          have hlt5 := hM2.lt
          gi_wp2_with fail
          refine ⟨(KeepsFrom.of_grownBy (row := none) ⟨hq.os, hq.tape, hq.output, hq.size, fun i hi _ => hq.block i hi⟩ (fun j e => by cases e)).trans ((KeepsOthers.setCell _ _ _).from _), ⟨rfl, x, by simp, hl.out⟩, ?_, ?_⟩
          · exact setBoth (hbw.trans (hq.mono hsz)) _ _
          · simpa [World.setCell] using Nat.le_trans hsz hq.size

      · have hl := Lib.hid hl
        · 
          gi_wp2_with fail
          refine qr_region (fun Wq => Below W.heap.size W Wq) (by kernel_rfl) (by kernel_rfl) (by kernel_rfl) (fun n => ⟨rfl, rfl, rfl, Nat.le_refl _, fun _ _ => rfl⟩) ?_
          refine qr_val (by rfl) ?_
          apply Exists.intro
          refine ⟨fun wq hq => ?_, ?_⟩
          · have hy0 := cells_of (hMW.more hq).c0
            have hy1 := cells_of (hMW.more hq).c1
            have hy2 := cells_of (hMW.more hq).c2
            have hyf := cells_of ((hq.block _ hfl).trans hfW)
            go_simp
            rfl
          simp only [Act.put, List.setIfInBounds_toArray, List.set_cons_zero, List.set_cons_succ]
          refine qr_val (by rfl) ?_
          apply Exists.intro
          refine ⟨fun wq hq => ?_, ?_⟩
          · have hy0 := cells_of (hMW.more hq).c0
            have hy1 := cells_of (hMW.more hq).c1
            have hy2 := cells_of (hMW.more hq).c2
            have hyf := cells_of ((hq.block _ hfl).trans hfW)
            go_simp
            rfl
          simp only [Act.put, List.setIfInBounds_toArray, List.set_cons_zero, List.set_cons_succ]
          refine qr_val (by rfl) ?_
          apply Exists.intro
          refine ⟨fun wq hq => ?_, ?_⟩
          · have hy0 := cells_of (hMW.more hq).c0
            have hy1 := cells_of (hMW.more hq).c1
            have hy2 := cells_of (hMW.more hq).c2
            have hyf := cells_of ((hq.block _ hfl).trans hfW)
            go_simp
            rfl
          simp only [Act.put, List.setIfInBounds_toArray, List.set_cons_zero, List.set_cons_succ]
          refine qr_val (by rfl) ?_
          apply Exists.intro
          refine ⟨fun wq hq => ?_, ?_⟩
          · have hy0 := cells_of (hMW.more hq).c0
            have hy1 := cells_of (hMW.more hq).c1
            have hy2 := cells_of (hMW.more hq).c2
            have hyf := cells_of ((hq.block _ hfl).trans hfW)
            go_simp
            rfl
          simp only [Act.put, List.setIfInBounds_toArray, List.set_cons_zero, List.set_cons_succ]
          refine qr_val (by rfl) ?_
          apply Exists.intro
          refine ⟨fun wq hq => ?_, ?_⟩
          · have hy0 := cells_of (hMW.more hq).c0
            have hy1 := cells_of (hMW.more hq).c1
            have hy2 := cells_of (hMW.more hq).c2
            have hyf := cells_of ((hq.block _ hfl).trans hfW)
            go_simp
            rfl
          simp only [Act.put, List.setIfInBounds_toArray, List.set_cons_zero, List.set_cons_succ]
          refine qr_call (by rfl) (.agg #[.func (.func 106) #[] #[]]) 102 #[] ?_ ?_ ?_
          · intro wq hq
            go_simp
          · intro wq hq
            refine (high_any wq).mono ?_
            rintro e w2 ⟨rfl, hb⟩
            exact ⟨rfl, hq.trans (hb.mono hq.size)⟩
          simp only [Act.put, List.setIfInBounds_toArray, List.set_cons_zero, List.set_cons_succ]
          refine qr_call (by rfl) (.bool true) 101 #[calcVal B ta tc sa sc m (.slice ca can.length cc), .agg #[i64 hr, i64 s], i64 load, i64 x.1, .agg #[i64 (can[k]).1, i64 (can[k]).2], .agg #[.func (.func 106) #[] #[]]] ?_ ?_ ?_
          · intro wq hq
            go_simp
          · intro wq hq
            refine (lands_high B ta tc sa sc m ca can.length cc hr s load x.1 (can[k]).1 (can[k]).2 hs wq hB l0 l1 (by omega) (by omega) (by omega) (by omega) (by omega) (by omega)).mono ?_
            rintro e w2 ⟨rfl, hb⟩
            exact ⟨by have := hl.out; unfold fAt at this; rw [this], hq.trans (hb.mono hq.size)⟩
          simp only [Act.put, List.setIfInBounds_toArray, List.set_cons_zero, List.set_cons_succ]
          refine qr_val (by rfl) ⟨.bool false, fun wq hq => by go_simp, ?_⟩
          simp only [Act.put, List.setIfInBounds_toArray, List.set_cons_zero, List.set_cons_succ]
          intro w2 hq
          have hM2 := hMW.more hq
          gi_wp2_with fail
          exact ⟨KeepsFrom.of_grownBy (row := none) ⟨hq.os, hq.tape, hq.output, hq.size, fun i hi _ => hq.block i hi⟩ (fun j e => by cases e), Kp.of_below hq (by have := hF.lt; have := hF.na; omega),
            by rw [List.all_append, hall, Bool.true_and]; simpa using hl.out, hbw.trans (hq.mono hsz), Nat.le_trans hsz hq.size⟩

    case done =>
      rintro Dd xs W hD hxs ⟨hall, hbw, hsz⟩ hK
      have hMW := hMI1.more hbw
      have hgo2 : Hid (mustB B s load (B.tides[hr]'hh.lt) D hr (can.take (k + 1)) = true) := by
        show _ = _
        have h2 := hgo.out
        unfold mustB at h2 ⊢
        rw [List.take_succ_eq_append_getElem hlt, List.all_append, h2]
        have h3 : (hList (B.tides[hr]'hh.lt) D hr (can[k]).1 (can[k]).2).all (fun h => landsB B s load h (fAt s can[k]) B.eh) = true := by
          rw [← hxs, List.all_map]; exact hall
        simp only [List.all_cons, List.all_nil, h3]; rfl
      gi_wp2
      refine ⟨⟨k + 1, Dd :: Ds, _, _, _, _, _, _, _, _, _, _, hlt, by go_num, ?_, hMW, hgo2⟩, ?_⟩
      · exact hMk1.cons rfl (fun i hi hk => (hbw.block i hi).trans hk) (by omega) hD hK
      · simp [intOf]; omega
    case stop =>
      rintro Dd c pre W hD hpre ⟨⟨rfl, x, hx, hl⟩, hbw, hsz⟩ hK
      have hfin : Hid (mustB B s load (B.tides[hr]'hh.lt) D hr can = false) := by
        show _ = _
        unfold mustB
        rw [List.all_eq_false]
        have hmem : x.1 ∈ hList (B.tides[hr]'hh.lt) D hr (can[k]).1 (can[k]).2 := hpre.subset (List.mem_map_of_mem hx)
        refine ⟨can[k], List.getElem_mem hlt, ?_⟩
        rw [Bool.not_eq_true, List.all_eq_false]; exact ⟨x.1, hmem, by rw [hl]; decide⟩
      have hzz := hMI1.lt
      have hMk2 : Marks w.heap.size (Dd :: Ds) W := hMk1.cons rfl (fun i hi hk => (hbw.block i hi).trans ((Below.heap_setCell _ _ _ _ (fun e => by have e' : i = w.heap.size + 1 + 1 + 1 := e; subst e'; rw [hMI1.c3] at hk; cases hk)).trans hk)) (by omega) hD hK
      have hbx : Boxed W (w.heap.size + 1 + 1 + 1) 4 (.bool false) := (hbw.block _ (by omega)).trans (hMI1.result.set _)
      have hbf : Below w.heap.size w W := (hMI1.below.setCell (p := ⟨w.heap.size + 1 + 1 + 1, 0, none⟩) (by show w.heap.size ≤ w.heap.size + 1 + 1 + 1; omega) (.bool false)).trans (hbw.mono (by omega))
      gi_wp2
      refine leaves_marks (Dd :: Ds) _ hMk2 (fun W' hs => ?_)
      have hbx' : Boxed W' (w.heap.size + 1 + 1 + 1) 4 (.bool false) := hs.kept _ _ _ _ hbx
      have hc5 := hbx'.cell
      refine ⟨.bool false, ?_, ?_, hs.below (Nat.le_refl _) hbf⟩
      · simp [results, Tryd.f79, go_sem, hc5]
      · rw [hfin.out]
  · have hke : k = can.length := by omega
    have hgo2 : Hid (mustB B s load (B.tides[hr]'hh.lt) D hr can = true) := by
      have := hgo.out
      rw [hke, List.take_length] at this
      exact this
    have hk' : ¬ (k : Int) < (can.length : Int) := by omega
    clear hke
    have hbx0 := hMI.result
    have hc5 := hbx0.cell
    have hf5 := hbx0.frozen
    have hlt5 := hMI.lt
    have hbx : Boxed (wr.setCell ⟨w.heap.size + 1 + 1 + 1, 0, none⟩ (.bool true)) (w.heap.size + 1 + 1 + 1) 4 (.bool true) := hbx0.set _
    have hMk2 : Marks w.heap.size Ds (wr.setCell ⟨w.heap.size + 1 + 1 + 1, 0, none⟩ (.bool true)) := ⟨hMk.nodup, fun d hd => ⟨(hMk.at_ d hd).1, (Below.heap_setCell _ _ _ _ (fun e => by
      have e' : d = w.heap.size + 1 + 1 + 1 := e
      subst e'
      have := (hMk.at_ _ hd).2
      rw [hMI.c3] at this
      cases this)).trans (hMk.at_ d hd).2⟩⟩
    have hbf : Below w.heap.size w (wr.setCell ⟨w.heap.size + 1 + 1 + 1, 0, none⟩ (.bool true)) := hMI.below.setCell (p := ⟨w.heap.size + 1 + 1 + 1, 0, none⟩) (by show w.heap.size ≤ w.heap.size + 1 + 1 + 1; omega) (.bool true)
    gi_wp2_with fail
    refine leaves_marks Ds _ hMk2 (fun W' hs => ?_)
    have hbx' : Boxed W' (w.heap.size + 1 + 1 + 1) 4 (.bool true) := hs.kept _ _ _ _ hbx
    have hc6 := hbx'.cell
    refine ⟨.bool true, ?_, ?_, hs.below (Nat.le_refl _) hbf⟩
    · simp [results, Tryd.f79, go_sem, hc6]
    · rw [hgo2.out]
set_option maxRecDepth 100000 in
set_option maxHeartbeats 2000000 in
theorem may_in (n : Nat) (hn : 3 ≤ n) (nA : Nat) (B : Book) (tb tq : Nat) (ta : Option Addr) (tc : Nat) (sa : Option Addr) (sc m : Nat) (cb co : Nat) (ca : Option Addr) (can : List (Int × Int)) (cc : Nat) (D : Int → Int → List Int) (hr : Nat) (hh : HourOk B hr) (s load : Int)
    (hB : Sane B) (hs : s = 0 ∨ s = 1) (l0 : 0 ≤ load) (l1 : load ≤ 1000) (hok : CansOk can) (w : World) (hna : nA ≤ w.heap.size) (hT : SpansAt nA w tb tq ta B.tides) (hM : MapIn nA w m D) (hC : CansAt nA w cb co ca can) :
    CallsIn Fence.wide n Tryd.prog 122 #[calcVal B ta tc sa sc m (.slice ca can.length cc), .agg #[i64 hr, i64 s], i64 load] w (SomePost (mayB B s load (B.tides[hr]'hh.lt) D hr can) w) := by
  refine callsIn_of_wp_marks Tryd.func122 rfl trivial ?_ rfl
  simp only [Tryd.ntmps122, List.size_toArray, List.length_cons, List.length_nil, Nat.reduceAdd, Nat.reduceSub, Array.replicate_succ, Array.replicate_zero, List.push_toArray, List.append_toArray, List.nil_append, List.cons_append]
  have h1 : 1 ≤ n := by omega
  have hlen := hC.len
  gi_wp2_with fail
  have hM0 : MI w.heap.size B ta tc sa sc m (.slice ca can.length cc) hr s load false w ((((w.alloc (.cells (calcCells B ta tc sa sc m (.slice ca can.length cc)) 93)).alloc (.cells #[i64 hr, i64 s] 107)).alloc (.cells #[i64 load] 3)).alloc (.cells #[.bool false] 4)) := by
    obtain ⟨p1, p2, p3, p4, p5, p6⟩ := alloc4 w (.cells (calcCells B ta tc sa sc m (.slice ca can.length cc)) 93) (.cells #[i64 hr, i64 s] 107) (.cells #[i64 load] 3) (.cells #[.bool false] 4)
    exact ⟨p1, p3, p4, p5, p6⟩
  refine wpIn_loop (fun a wr => ∃ (k : Nat) (Ds : List Nat) (v8 v14 v15 v16 v17 v18 v19 v20 v21 v30 : Value), k ≤ can.length ∧ a = { tmps := #[calcVal B ta tc sa sc m (.slice ca can.length cc), .agg #[i64 hr, i64 s], i64 load, .pointer (some ⟨w.heap.size, 0, none⟩), .pointer (some ⟨w.heap.size + 1, 0, none⟩), .pointer (some ⟨w.heap.size + 1 + 1, 0, none⟩), .pointer (some ⟨w.heap.size + 1 + 1 + 1, 0, none⟩), undef, v8, undef, .pointer (some ⟨w.heap.size, 15, none⟩), .slice ca can.length cc, i64 can.length, i64 k, v14, v15, v16, v17, v18, v19, v20, v21, undef, undef, undef, undef, undef, undef, undef, undef, v30], defers := Ds.map mark } ∧
    Marks w.heap.size Ds wr ∧ MI w.heap.size B ta tc sa sc m (.slice ca can.length cc) hr s load false w wr ∧ Hid (mayB B s load (B.tides[hr]'hh.lt) D hr (can.take k) = false))
    (fun a _ => can.length - (intOf (a.tmps.getD 13 undef)).toNat) ?_ ?_
  · exact ⟨0, [], _, _, _, _, _, _, _, _, _, _, Nat.zero_le _, rfl, Marks.nil _ _, hM0, by simp [Hid, mayB]⟩
  clear hM0
  rintro a wr ⟨k, Ds, v8, v14, v15, v16, v17, v18, v19, v20, v21, v30, hk, rfl, hMk, hMI, hgo⟩
  by_cases hlt : k < can.length
  · have hnn := ne_nil_of_lt hlt
    have hx0 := cells_of hMI.c0
    have hx1 := cells_of hMI.c1
    have hx2 := cells_of hMI.c2
    have hz := hMI.lt
    have hz0 : w.heap.size < wr.heap.size := by omega
    have hz1 : w.heap.size + 1 < wr.heap.size := by omega
    have hz2 : w.heap.size + 1 + 1 < wr.heap.size := by omega
    have hC1 := hC.same ((Same.of_below hMI.below).mono hna)
    have hidx := idx91 (n := can.length) (c := cc) (k := k) wr (hC1.at_ hnn) hlt
    have hc1 := hC1.fst k hlt
    have hc2 := hC1.snd k hlt
    have hok1 := hok _ (List.getElem_mem hlt)
    obtain ⟨⟨g1, g2⟩, g3, g4⟩ := hok1
    gi_wp2_with (refine ⟨trivial, ?_⟩; gi_at_call 74; refine (CallsIn.mono (callsIn_wide.2 (heights_b B ta tc sa sc m ca can.length cc _ _ _ _)) ?_); rintro e w' ⟨b0, hbe, rfl, hb1, e0, e1, e2⟩)
    have hbA : Below wr.heap.size wr w' := ((Below.refl _ wr).alloc (Nat.le_refl _) _).trans (hb1.mono (by simp))
    have hMI1 := hMI.more hbA
    have hMk1 := hMk.more hbA
    have hf1 : w'.heap[wr.heap.size]? = some (.cells #[i64 (can[k]).1, i64 (can[k]).2] 99 (0, 0)) := (hb1.block _ (by simp)).trans (heap_alloc_new wr _)
    have hflt : wr.heap.size < w'.heap.size := (Array.getElem?_eq_some_iff.1 hf1).1
    have hbe' : wr.heap.size + 1 ≤ b0 := by simpa using hbe
    have hlt2 : b0 + 2 < w'.heap.size := (Array.getElem?_eq_some_iff.1 e2).1
    have hF : HF nA b0 B tb tq ta tc sa sc m ca can.length cc D hr (can[k]).1 (can[k]).2 w' := ⟨by omega, e0, e1, e2, hT.same ((Same.of_below hMI1.below).mono hna), hM.same ((Same.of_below hMI1.below).mono hna)⟩
    have hOF : ∀ {β : Type} (p : β → Prop) (w0 : World), OwnFrom w'.heap.size (fun (s : β) W => p s ∧ Below w'.heap.size w0 W ∧ w'.heap.size ≤ W.heap.size) := fun {β} p w0 s A A' row h hg hr => ⟨h.1, ownFrom_below (β := β) (Nat.le_refl _) s A A' row h.2 hg hr⟩
    clear hb1 e0 e1 e2 hbe hx0 hx1 hx2 hidx hc1 hc2 hMk hMI
    refine wpIn_rangeFunc_ownG rfl h1 (gf := 97) (lb := #[.pointer (some ⟨b0, 0, none⟩), .pointer (some ⟨b0 + 1, 0, none⟩), .pointer (some ⟨b0 + 2, 0, none⟩)]) rfl trivial (enters_of Tryd.func97 (by kernel_rfl) rfl)
      (heights_stops (n - 1) (by omega) nA b0 B tb tq ta tc sa sc m ca can.length cc D hr hh _ _ g1 g2 g3 g4 w' hF) (fun h k => Kp.trans h k) (Kp.b (by have := hF.na; omega)) (Below.refl _ _) (fun _ => rfl)
      (fun pre W => (pre.any (fun x => landsB B s load x.1 (fAt s can[k]) B.el) = false) ∧ Below w'.heap.size w' W ∧ w'.heap.size ≤ W.heap.size)
      (fun c pre W => (c = .ret ∧ ∃ x ∈ pre, landsB B s load x.1 (fAt s can[k]) B.el = true) ∧ Below w'.heap.size (w'.setCell ⟨w.heap.size + 1 + 1 + 1, 0, none⟩ (.bool true)) W ∧ w'.heap.size ≤ W.heap.size)
      (hOF _ _) (fun c => hOF _ _) ⟨rfl, Below.refl _ _, Nat.le_refl _⟩ ?a1 ?assign ?body ?done ?stop
    case assign =>
      intro l x W K hK
      gi_wp2
      exact hK
    case body =>
      rintro l pre x W ⟨hall, hbw, hsz⟩ _
      have hMW := hMI1.more hbw
      have hfW := (hbw.block _ hflt).trans hf1
      have hfl : wr.heap.size < W.heap.size := by omega
      have hy0 := cells_of hMW.c0
      have hy1 := cells_of hMW.c1
      have hy2 := cells_of hMW.c2
      have hyf := cells_of hfW
      have hyz := hMW.lt
      have hyz0 : w.heap.size < W.heap.size := by omega
      have hyz1 : w.heap.size + 1 < W.heap.size := by omega
      have hyz2 : w.heap.size + 1 + 1 < W.heap.size := by omega
      have hx := x.2
      obtain ⟨hx1, hx2⟩ := hx
      cases hl : landsB B s load x.1 (fAt s can[k]) B.el
      · have hl := Lib.hid hl
        · 
          gi_wp2_with fail
          refine qr_region (fun Wq => Below W.heap.size W Wq) (by kernel_rfl) (by kernel_rfl) (by kernel_rfl) (fun n => ⟨rfl, rfl, rfl, Nat.le_refl _, fun _ _ => rfl⟩) ?_
          refine qr_val (by rfl) ?_
          apply Exists.intro
          refine ⟨fun wq hq => ?_, ?_⟩
          · have hy0 := cells_of (hMW.more hq).c0
            have hy1 := cells_of (hMW.more hq).c1
            have hy2 := cells_of (hMW.more hq).c2
            have hyf := cells_of ((hq.block _ hfl).trans hfW)
            go_simp
            rfl
          simp only [Act.put, List.setIfInBounds_toArray, List.set_cons_zero, List.set_cons_succ]
          refine qr_val (by rfl) ?_
          apply Exists.intro
          refine ⟨fun wq hq => ?_, ?_⟩
          · have hy0 := cells_of (hMW.more hq).c0
            have hy1 := cells_of (hMW.more hq).c1
            have hy2 := cells_of (hMW.more hq).c2
            have hyf := cells_of ((hq.block _ hfl).trans hfW)
            go_simp
            rfl
          simp only [Act.put, List.setIfInBounds_toArray, List.set_cons_zero, List.set_cons_succ]
          refine qr_val (by rfl) ?_
          apply Exists.intro
          refine ⟨fun wq hq => ?_, ?_⟩
          · have hy0 := cells_of (hMW.more hq).c0
            have hy1 := cells_of (hMW.more hq).c1
            have hy2 := cells_of (hMW.more hq).c2
            have hyf := cells_of ((hq.block _ hfl).trans hfW)
            go_simp
            rfl
          simp only [Act.put, List.setIfInBounds_toArray, List.set_cons_zero, List.set_cons_succ]
          refine qr_val (by rfl) ?_
          apply Exists.intro
          refine ⟨fun wq hq => ?_, ?_⟩
          · have hy0 := cells_of (hMW.more hq).c0
            have hy1 := cells_of (hMW.more hq).c1
            have hy2 := cells_of (hMW.more hq).c2
            have hyf := cells_of ((hq.block _ hfl).trans hfW)
            go_simp
            rfl
          simp only [Act.put, List.setIfInBounds_toArray, List.set_cons_zero, List.set_cons_succ]
          refine qr_val (by rfl) ?_
          apply Exists.intro
          refine ⟨fun wq hq => ?_, ?_⟩
          · have hy0 := cells_of (hMW.more hq).c0
            have hy1 := cells_of (hMW.more hq).c1
            have hy2 := cells_of (hMW.more hq).c2
            have hyf := cells_of ((hq.block _ hfl).trans hfW)
            go_simp
            rfl
          simp only [Act.put, List.setIfInBounds_toArray, List.set_cons_zero, List.set_cons_succ]
          refine qr_call (by rfl) (.agg #[.func (.func 125) #[] #[]]) 124 #[] ?_ ?_ ?_
          · intro wq hq
            go_simp
          · intro wq hq
            refine (low_any wq).mono ?_
            rintro e w2 ⟨rfl, hb⟩
            exact ⟨rfl, hq.trans (hb.mono hq.size)⟩
          simp only [Act.put, List.setIfInBounds_toArray, List.set_cons_zero, List.set_cons_succ]
          refine qr_call (by rfl) (.bool false) 101 #[calcVal B ta tc sa sc m (.slice ca can.length cc), .agg #[i64 hr, i64 s], i64 load, i64 x.1, .agg #[i64 (can[k]).1, i64 (can[k]).2], .agg #[.func (.func 125) #[] #[]]] ?_ ?_ ?_
          · intro wq hq
            go_simp
          · intro wq hq
            refine (lands_low B ta tc sa sc m ca can.length cc hr s load x.1 (can[k]).1 (can[k]).2 hs wq hB l0 l1 (by omega) (by omega) (by omega) (by omega) (by omega) (by omega)).mono ?_
            rintro e w2 ⟨rfl, hb⟩
            exact ⟨by have := hl.out; unfold fAt at this; rw [this], hq.trans (hb.mono hq.size)⟩
          simp only [Act.put, List.setIfInBounds_toArray, List.set_cons_zero, List.set_cons_succ]
          intro w2 hq
          have hM2 := hMW.more hq
          gi_wp2_with fail
          exact ⟨KeepsFrom.of_grownBy (row := none) ⟨hq.os, hq.tape, hq.output, hq.size, fun i hi _ => hq.block i hi⟩ (fun j e => by cases e), Kp.of_below hq (by have := hF.lt; have := hF.na; omega),
            by rw [List.any_append, hall, Bool.false_or]; simpa using hl.out, hbw.trans (hq.mono hsz), Nat.le_trans hsz hq.size⟩

      · have hl := Lib.hid hl
        · 
          gi_wp2_with fail
          refine qr_region (fun Wq => Below W.heap.size W Wq) (by kernel_rfl) (by kernel_rfl) (by kernel_rfl) (fun n => ⟨rfl, rfl, rfl, Nat.le_refl _, fun _ _ => rfl⟩) ?_
          refine qr_val (by rfl) ?_
          apply Exists.intro
          refine ⟨fun wq hq => ?_, ?_⟩
          · have hy0 := cells_of (hMW.more hq).c0
            have hy1 := cells_of (hMW.more hq).c1
            have hy2 := cells_of (hMW.more hq).c2
            have hyf := cells_of ((hq.block _ hfl).trans hfW)
            go_simp
            rfl
          simp only [Act.put, List.setIfInBounds_toArray, List.set_cons_zero, List.set_cons_succ]
          refine qr_val (by rfl) ?_
          apply Exists.intro
          refine ⟨fun wq hq => ?_, ?_⟩
          · have hy0 := cells_of (hMW.more hq).c0
            have hy1 := cells_of (hMW.more hq).c1
            have hy2 := cells_of (hMW.more hq).c2
            have hyf := cells_of ((hq.block _ hfl).trans hfW)
            go_simp
            rfl
          simp only [Act.put, List.setIfInBounds_toArray, List.set_cons_zero, List.set_cons_succ]
          refine qr_val (by rfl) ?_
          apply Exists.intro
          refine ⟨fun wq hq => ?_, ?_⟩
          · have hy0 := cells_of (hMW.more hq).c0
            have hy1 := cells_of (hMW.more hq).c1
            have hy2 := cells_of (hMW.more hq).c2
            have hyf := cells_of ((hq.block _ hfl).trans hfW)
            go_simp
            rfl
          simp only [Act.put, List.setIfInBounds_toArray, List.set_cons_zero, List.set_cons_succ]
          refine qr_val (by rfl) ?_
          apply Exists.intro
          refine ⟨fun wq hq => ?_, ?_⟩
          · have hy0 := cells_of (hMW.more hq).c0
            have hy1 := cells_of (hMW.more hq).c1
            have hy2 := cells_of (hMW.more hq).c2
            have hyf := cells_of ((hq.block _ hfl).trans hfW)
            go_simp
            rfl
          simp only [Act.put, List.setIfInBounds_toArray, List.set_cons_zero, List.set_cons_succ]
          refine qr_val (by rfl) ?_
          apply Exists.intro
          refine ⟨fun wq hq => ?_, ?_⟩
          · have hy0 := cells_of (hMW.more hq).c0
            have hy1 := cells_of (hMW.more hq).c1
            have hy2 := cells_of (hMW.more hq).c2
            have hyf := cells_of ((hq.block _ hfl).trans hfW)
            go_simp
            rfl
          simp only [Act.put, List.setIfInBounds_toArray, List.set_cons_zero, List.set_cons_succ]
          refine qr_call (by rfl) (.agg #[.func (.func 125) #[] #[]]) 124 #[] ?_ ?_ ?_
          · intro wq hq
            go_simp
          · intro wq hq
            refine (low_any wq).mono ?_
            rintro e w2 ⟨rfl, hb⟩
            exact ⟨rfl, hq.trans (hb.mono hq.size)⟩
          simp only [Act.put, List.setIfInBounds_toArray, List.set_cons_zero, List.set_cons_succ]
          refine qr_call (by rfl) (.bool true) 101 #[calcVal B ta tc sa sc m (.slice ca can.length cc), .agg #[i64 hr, i64 s], i64 load, i64 x.1, .agg #[i64 (can[k]).1, i64 (can[k]).2], .agg #[.func (.func 125) #[] #[]]] ?_ ?_ ?_
          · intro wq hq
            go_simp
          · intro wq hq
            refine (lands_low B ta tc sa sc m ca can.length cc hr s load x.1 (can[k]).1 (can[k]).2 hs wq hB l0 l1 (by omega) (by omega) (by omega) (by omega) (by omega) (by omega)).mono ?_
            rintro e w2 ⟨rfl, hb⟩
            exact ⟨by have := hl.out; unfold fAt at this; rw [this], hq.trans (hb.mono hq.size)⟩
          simp only [Act.put, List.setIfInBounds_toArray, List.set_cons_zero, List.set_cons_succ]
          intro w2 hq
          have hM2 := hMW.more hq
          have hbx := hM2.result
          have hc5 := hbx.cell
          have hf5 := hbx.frozen
          have hlt5 := hM2.lt
          gi_wp2_with fail
          refine ⟨(KeepsFrom.of_grownBy (row := none) ⟨hq.os, hq.tape, hq.output, hq.size, fun i hi _ => hq.block i hi⟩ (fun j e => by cases e)).trans ((KeepsOthers.setCell _ _ _).from _), ⟨rfl, x, by simp, hl.out⟩, ?_, ?_⟩
          · exact setBoth (hbw.trans (hq.mono hsz)) _ _
          · simpa [World.setCell] using Nat.le_trans hsz hq.size

    case done =>
      rintro Dd xs W hD hxs ⟨hall, hbw, hsz⟩ hK
      have hMW := hMI1.more hbw
      have hgo2 : Hid (mayB B s load (B.tides[hr]'hh.lt) D hr (can.take (k + 1)) = false) := by
        show _ = _
        have h2 := hgo.out
        unfold mayB at h2 ⊢
        rw [List.take_succ_eq_append_getElem hlt, List.any_append, h2]
        have h3 : (hList (B.tides[hr]'hh.lt) D hr (can[k]).1 (can[k]).2).any (fun h => landsB B s load h (fAt s can[k]) B.el) = false := by
          rw [← hxs, List.any_map]; exact hall
        simp only [List.any_cons, List.any_nil, h3]; rfl
      gi_wp2
      refine ⟨⟨k + 1, Dd :: Ds, _, _, _, _, _, _, _, _, _, _, hlt, by go_num, ?_, hMW, hgo2⟩, ?_⟩
      · exact hMk1.cons rfl (fun i hi hk => (hbw.block i hi).trans hk) (by omega) hD hK
      · simp [intOf]; omega
    case stop =>
      rintro Dd c pre W hD hpre ⟨⟨rfl, x, hx, hl⟩, hbw, hsz⟩ hK
      have hfin : Hid (mayB B s load (B.tides[hr]'hh.lt) D hr can = true) := by
        show _ = _
        unfold mayB
        rw [List.any_eq_true]
        have hmem : x.1 ∈ hList (B.tides[hr]'hh.lt) D hr (can[k]).1 (can[k]).2 := hpre.subset (List.mem_map_of_mem hx)
        refine ⟨can[k], List.getElem_mem hlt, ?_⟩
        rw [List.any_eq_true]; exact ⟨x.1, hmem, hl⟩
      have hzz := hMI1.lt
      have hMk2 : Marks w.heap.size (Dd :: Ds) W := hMk1.cons rfl (fun i hi hk => (hbw.block i hi).trans ((Below.heap_setCell _ _ _ _ (fun e => by have e' : i = w.heap.size + 1 + 1 + 1 := e; subst e'; rw [hMI1.c3] at hk; cases hk)).trans hk)) (by omega) hD hK
      have hbx : Boxed W (w.heap.size + 1 + 1 + 1) 4 (.bool true) := (hbw.block _ (by omega)).trans (hMI1.result.set _)
      have hbf : Below w.heap.size w W := (hMI1.below.setCell (p := ⟨w.heap.size + 1 + 1 + 1, 0, none⟩) (by show w.heap.size ≤ w.heap.size + 1 + 1 + 1; omega) (.bool true)).trans (hbw.mono (by omega))
      gi_wp2
      refine leaves_marks (Dd :: Ds) _ hMk2 (fun W' hs => ?_)
      have hbx' : Boxed W' (w.heap.size + 1 + 1 + 1) 4 (.bool true) := hs.kept _ _ _ _ hbx
      have hc5 := hbx'.cell
      refine ⟨.bool true, ?_, ?_, hs.below (Nat.le_refl _) hbf⟩
      · simp [results, Tryd.f122, go_sem, hc5]
      · rw [hfin.out]
  · have hke : k = can.length := by omega
    have hgo2 : Hid (mayB B s load (B.tides[hr]'hh.lt) D hr can = false) := by
      have := hgo.out
      rw [hke, List.take_length] at this
      exact this
    have hk' : ¬ (k : Int) < (can.length : Int) := by omega
    clear hke
    have hbx0 := hMI.result
    have hc5 := hbx0.cell
    have hf5 := hbx0.frozen
    have hlt5 := hMI.lt
    have hbx : Boxed (wr.setCell ⟨w.heap.size + 1 + 1 + 1, 0, none⟩ (.bool false)) (w.heap.size + 1 + 1 + 1) 4 (.bool false) := hbx0.set _
    have hMk2 : Marks w.heap.size Ds (wr.setCell ⟨w.heap.size + 1 + 1 + 1, 0, none⟩ (.bool false)) := ⟨hMk.nodup, fun d hd => ⟨(hMk.at_ d hd).1, (Below.heap_setCell _ _ _ _ (fun e => by
      have e' : d = w.heap.size + 1 + 1 + 1 := e
      subst e'
      have := (hMk.at_ _ hd).2
      rw [hMI.c3] at this
      cases this)).trans (hMk.at_ d hd).2⟩⟩
    have hbf : Below w.heap.size w (wr.setCell ⟨w.heap.size + 1 + 1 + 1, 0, none⟩ (.bool false)) := hMI.below.setCell (p := ⟨w.heap.size + 1 + 1 + 1, 0, none⟩) (by show w.heap.size ≤ w.heap.size + 1 + 1 + 1; omega) (.bool false)
    gi_wp2_with fail
    refine leaves_marks Ds _ hMk2 (fun W' hs => ?_)
    have hbx' : Boxed W' (w.heap.size + 1 + 1 + 1) 4 (.bool false) := hs.kept _ _ _ _ hbx
    have hc6 := hbx'.cell
    refine ⟨.bool false, ?_, ?_, hs.below (Nat.le_refl _) hbf⟩
    · simp [results, Tryd.f122, go_sem, hc6]
    · rw [hgo2.out]
end Go.Proofs.YtkbmpkdflgimmaaDoor
