/- Floor, Pure1, RGuard in one text. (Printed by merge.py.) -/
import Derived.Test.YtkbmpkdflgimmaaDoorS3
import Derived.Test.YtkbmpkdflgimmaaDoorS2
/- The contract of Floor. -/
namespace Go.Proofs.YtkbmpkdflgimmaaDoor
open Go.RowKit Go.Shelf

theorem AskCs.ra {z z' : Nat} {B : Book} {ta : Option Addr} {tc : Nat} {sa : Option Addr} {sc : Nat} {err : Int} {W W' : World} {cs : Array Value} (h : AskCs z B ta tc sa sc err W cs) (hr : RA z' W W') : AskCs z B ta tc sa sc err W' cs :=
  ⟨h.size, h.one, fun he => (h.facts he).ra hr⟩
theorem AskCs.down {z z' : Nat} {B : Book} {ta : Option Addr} {tc : Nat} {sa : Option Addr} {sc : Nat} {err : Int} {W : World} {cs : Array Value} (h : AskCs z B ta tc sa sc err W cs) (hz : z' ≤ z) : AskCs z' B ta tc sa sc err W cs :=
  ⟨h.size, h.one, fun he => (h.facts he).down hz⟩
/-- A pair of what asked hands back. -/
def AskTup (z : Nat) (B : Book) (ta : Option Addr) (tc : Nat) (sa : Option Addr) (sc : Nat) (err : Int) (vs : List Value) (W : World) : Prop := ∃ cs, vs = [.tuple #[.agg cs, i64 err]] ∧ AskCs z B ta tc sa sc err W cs
def AskAgg (z : Nat) (B : Book) (ta : Option Addr) (tc : Nat) (sa : Option Addr) (sc : Nat) (err : Int) (vs : List Value) (W : World) : Prop := ∃ cs, vs = [.agg cs] ∧ AskCs z B ta tc sa sc err W cs
def AskBox (z : Nat) (vs : List Value) (W : World) : Prop := ∃ b c, vs = [.pointer (some ⟨b, 0, none⟩)] ∧ z ≤ b ∧ W.heap[b]? = some (.cells c 93 (0, 0)) ∧ c.size = 16
def AskVar (z : Nat) (B : Book) (ta : Option Addr) (tc : Nat) (sa : Option Addr) (sc : Nat) (err : Int) (vs : List Value) (W : World) : Prop := ∃ b cs, vs = [.pointer (some ⟨b, 0, none⟩)] ∧ z ≤ b ∧ W.heap[b]? = some (.cells cs 93 (0, 0)) ∧ AskCs z B ta tc sa sc err W cs
theorem AskTup.ra {z B ta tc sa sc err vs W W'} (h : AskTup z B ta tc sa sc err vs W) (hr : RA z W W') : AskTup z B ta tc sa sc err vs W' := by
  obtain ⟨cs, h1, h2⟩ := h
  exact ⟨cs, h1, h2.ra hr⟩
theorem AskAgg.ra {z B ta tc sa sc err vs W W'} (h : AskAgg z B ta tc sa sc err vs W) (hr : RA z W W') : AskAgg z B ta tc sa sc err vs W' := by
  obtain ⟨cs, h1, h2⟩ := h
  exact ⟨cs, h1, h2.ra hr⟩
theorem AskBox.ra {z vs W W'} (h : AskBox z vs W) (hr : RA z W W') : AskBox z vs W' := by
  obtain ⟨b, c, h1, h2, h3, h4⟩ := h
  obtain ⟨c', h5, h6⟩ := hr.box b c h3
  exact ⟨b, c', h1, h2, h5, h6.trans h4⟩
theorem wp_of_run {P : Program} {o : Oper} {a : Act} {w w' : World} {v : Value} {K : Act → World → Prop} {Q : Exit → Act → World → Prop} (h : (execOp a.eval o).run P w = .ok (.value v) w') (hK : K (a.put o.dst v) w') : o.wp P a w K Q := by
  unfold Oper.wp
  rw [h]
  exact hK
/-- What Floor answers: the span and the error. -/
def floorR (B : Book) (shore : Int) : Int × Int × Int := if askE B (inB shore 0 1) = 0 then (minL ((cansB B).map (fAt shore)), maxL (((cansB B).map (fAt shore)).head?.getD 0) ((cansB B).map (fAt shore)), 0) else (0, 0, askE B (inB shore 0 1))
def FloorPost (B : Book) (shore : Int) (w : World) (e : Ending) (w' : World) : Prop := e = .returned (.tuple #[.agg #[i64 (floorR B shore).1, i64 (floorR B shore).2.1], i64 (floorR B shore).2.2]) ∧ Below w.heap.size w w'
theorem cell_one_after (w : World) (o : Obj) (x : Value) (t : TypeId) : ∀ j u, [x][j]? = some u → ((w.alloc o).alloc (.cells #[x] t)).cell? ((⟨w.heap.size + 1, 0, none⟩ : Addr).add j) = some u := fun j u h => by
  have := cell_one_new (w.alloc o) x t j u h
  rwa [World.size_alloc] at this
def rdFloor (i : Nat) : List Nat := match i with
  | 0 => [12] | 1 => [13] | 2 => [14] | 3 => [15] | 4 => [11] | 5 => [16] | 6 => [17] | 7 => [6] | 8 => [6] | 9 => [7] | _ => []
def pureFloor (i : Nat) : Bool := match i with
  | 2 => false | 3 => false | 7 => false | 8 => false | _ => true
def gFloor (z : Nat) (B : Book) (ta : Option Addr) (tc : Nat) (sa : Option Addr) (sc : Nat) (shore : Int) (is : Bool) (i : Nat) (vs : List Value) (W : World) : Prop := match i with
  | 0 => vs = [.agg (bookCells B ta tc sa sc)]
  | 1 => vs = [i64 shore]
  | 2 => vs = [.bool is]
  | 3 => AskTup z B ta tc sa sc (askE B is) vs W
  | 4 => AskTup z B ta tc sa sc (askE B is) vs W
  | 5 => AskAgg z B ta tc sa sc (askE B is) vs W
  | 6 => vs = [i64 (askE B is)]
  | 7 => AskBox z vs W
  | 8 => AskVar z B ta tc sa sc (askE B is) vs W
  | 9 => vs = [i64 (askE B is)]
  | _ => True
set_option maxRecDepth 100000 in
set_option maxHeartbeats 2000000 in
theorem Floor_any (nA : Nat) (B : Book) (tb tq : Nat) (ta : Option Addr) (tc : Nat) (sb sq : Nat) (sa : Option Addr) (sc : Nat) (shore : Int) (w : World) (hn : nA ≤ w.heap.size) (hE : Env nA w B tb tq ta sb sq sa) :
    Calls Tryd.prog 28 #[bookVal B ta tc sa sc, i64 shore] w (FloorPost B shore w) := by
  have hb0 : Below w.heap.size w ((w.alloc (.cells (bookCells B ta tc sa sc) 30)).alloc (.cells #[i64 0, i64 0] 24)) := ((Below.refl _ w).alloc (Nat.le_refl _) _).alloc (by simp) _
  have hE0 := hE.below hn hb0
  have hx0 : ((w.alloc (.cells (bookCells B ta tc sa sc) 30)).alloc (.cells #[i64 0, i64 0] 24)).heap[w.heap.size]? = some (.cells (bookCells B ta tc sa sc) 30 (0, 0)) := (Below.heap_alloc _ _ _ (by simp)).trans (heap_alloc_new w _)
  go_enter Tryd.func28, Tryd.ntmps28
  go_wp2_with fail
  refine rg_region rdFloor pureFloor (gFloor (w.heap.size + 2) B ta tc sa sc shore (inB shore 0 1)) (RA (w.heap.size + 2)) (by kernel_rfl) (by kernel_rfl) (fun n => RA.drawn _ _ n) (RA.refl _) (fun _ _ _ => RA.trans) ?_ ?_ ?_
  · intro i hi vs w1 w2 hG hR
    match i, hi, hG with
    | 0, _, hG => exact hG
    | 1, _, hG => exact hG
    | 2, _, hG => exact hG
    | 3, _, hG => exact AskTup.ra hG hR
    | 4, _, hG => exact AskTup.ra hG hR
    | 5, _, hG => exact AskAgg.ra hG hR
    | 6, _, hG => exact hG
    | 7, _, hG => exact AskBox.ra hG hR
    | 8, hi, _ => exact absurd hi (Bool.eq_false_iff.1 (by kernel_rfl))
    | 9, _, hG => exact hG
    | _ + 10, _, _ => trivial
  · intro i o ho a w1 hR hF hD
    have s1 : a.eval (.tmp 1) = i64 shore := hF.slot 1 (by kernel_rfl)
    have s2 : a.eval (.tmp 2) = .pointer (some ⟨w.heap.size, 0, none⟩) := hF.slot 2 (by kernel_rfl)
    have sz : a.tmps.size = 38 := hF.size
    have hx := (hR.old w.heap.size (by omega)).trans hx0
    match i, ho, hD with
    | 0, ho, hD =>
      cases ho
      refine rg_val rfl (.agg (bookCells B ta tc sa sc)) (ex_load_row 30 _ rfl _ s2 30 _ (0, 0) _ hx Tryd.underlying30 rfl (by rw [size30]; rfl)) (RA.refl _ _) ?_
      exact congrArg (fun v => [v]) (slotOf_same a 12 _ (by omega))
    | 1, ho, hD =>
      cases ho
      refine rg_val rfl (i64 shore) (ex_move _ rfl _ s1) (RA.refl _ _) ?_
      exact congrArg (fun v => [v]) (slotOf_same a 13 _ (by omega))
    | 2, ho, hD =>
      cases ho
      have d1 : slotOf a 13 = i64 shore := (List.cons.inj (hD 1 (by decide))).1
      have e1 : a.tmps[13]?.getD undef = i64 shore := by simpa [slotOf] using d1
      refine rg_call rfl 76 #[i64 shore] ?_ rfl ?_
      · simp [go_sem, e1]
      · refine (isShore_any shore w1).mono ?_
        rintro e w2 ⟨rfl, rfl⟩
        exact ⟨_, rfl, RA.refl _ _, congrArg (fun v => [v]) (slotOf_same a 14 _ (by omega))⟩
    | 3, ho, hD =>
      cases ho
      have d0 : slotOf a 12 = .agg (bookCells B ta tc sa sc) := (List.cons.inj (hD 0 (by decide))).1
      have d2 : slotOf a 14 = .bool (inB shore 0 1) := (List.cons.inj (hD 2 (by decide))).1
      have e0 : a.tmps[12]?.getD undef = .agg (bookCells B ta tc sa sc) := by simpa [slotOf] using d0
      have e2 : a.tmps[14]?.getD undef = .bool (inB shore 0 1) := by simpa [slotOf] using d2
      have hz : w.heap.size + 2 ≤ w1.heap.size := by have := hR.size; simpa using this
      have hE1 := hE0.same ⟨hR.size, fun k hk => hR.old k (by omega)⟩
      refine rg_call rfl 72 #[bookVal B ta tc sa sc, .bool (inB shore 0 1)] ?_ rfl ?_
      · simp [go_sem, e0, e2]
      · refine (asked_any nA B tb tq ta tc sb sq sa sc (inB shore 0 1) w1 (by omega) hE1.gl hE1.tides hE1.sounds).mono ?_
        rintro e w2 ⟨cs, rfl, hb, hcs⟩
        exact ⟨_, rfl, RA.of_below hz hb, cs, congrArg (fun v => [v]) (slotOf_same a 15 _ (by omega)), hcs.down hz⟩
    | 4, ho, hD =>
      cases ho
      obtain ⟨cs, d3, hcs⟩ := hD 3 (by decide)
      have e3 : a.eval (.tmp 15) = _ := (List.cons.inj d3).1
      refine rg_val rfl _ (ex_move _ rfl _ e3) (RA.refl _ _) ?_
      exact ⟨cs, congrArg (fun v => [v]) (slotOf_same a 11 _ (by omega)), hcs⟩
    | 5, ho, hD =>
      cases ho
      obtain ⟨cs, d4, hcs⟩ := hD 4 (by decide)
      have e4 : a.eval (.tmp 11) = _ := (List.cons.inj d4).1
      refine rg_val rfl (.agg cs) (ex_extract _ _ rfl _ _ e4 rfl) (RA.refl _ _) ?_
      exact ⟨cs, congrArg (fun v => [v]) (slotOf_same a 16 _ (by omega)), hcs⟩
    | 6, ho, hD =>
      cases ho
      obtain ⟨cs, d4, hcs⟩ := hD 4 (by decide)
      have e4 : a.eval (.tmp 11) = _ := (List.cons.inj d4).1
      refine rg_val rfl (i64 (askE B (inB shore 0 1))) (ex_extract _ _ rfl _ _ e4 rfl) (RA.refl _ _) ?_
      exact congrArg (fun v => [v]) (slotOf_same a 17 _ (by omega))
    | 7, ho, hD =>
      cases ho
      have hz : w.heap.size + 2 ≤ w1.heap.size := by have := hR.size; simpa using this
      refine rg_wp rfl rfl ?_
      refine wp_of_run (v := .pointer (some ⟨w1.heap.size, 0, none⟩)) (w' := w1.alloc (.cells zero93 93)) ?_ ?_
      · simp [go_sem]
      · exact ⟨_, rfl, RA.of_below hz ((Below.refl _ _).alloc (Nat.le_refl _) _), _, _, congrArg (fun v => [v]) (slotOf_same a 6 _ (by omega)), hz, heap_alloc_new _ _, rfl⟩
    | 8, ho, hD =>
      cases ho
      obtain ⟨cs, d5, hcs⟩ := hD 5 (by decide)
      obtain ⟨b, c, d7, hzb, hb, hc⟩ := hD 7 (by decide)
      have e5 : a.eval (.tmp 16) = _ := (List.cons.inj d5).1
      have e7 : a.eval (.tmp 6) = _ := (List.cons.inj d7).1
      refine rg_wp rfl rfl ?_
      refine wp_store_row 93 _ _ rfl b cs e7 e5 93 c hb (by rw [size93, hcs.size]) (by rw [hc, hcs.size]) hcs.one ?_
      have hra := RA.store hzb hb (by rw [hc, hcs.size] : cs.size = c.size)
      exact ⟨undef, rfl, hra, b, cs, d7, hzb, setRow_heap _ _ _ _ _ _ hb, hcs.ra hra⟩
    | 9, ho, hD =>
      cases ho
      have d6 : a.eval (.tmp 17) = i64 (askE B (inB shore 0 1)) := (List.cons.inj (hD 6 (by decide))).1
      refine rg_val rfl _ (ex_assign _ rfl _ d6) (RA.refl _ _) ?_
      exact congrArg (fun v => [v]) (slotOf_same a 7 _ (by omega))
    | _ + 10, ho, _ => cases ho
  · intro a w1 hR hF hA
    have f0 : slotOf a 0 = bookVal B ta tc sa sc := hF.slot 0 (by kernel_rfl)
    have f1 : slotOf a 1 = i64 shore := hF.slot 1 (by kernel_rfl)
    have f2 : slotOf a 2 = .pointer (some ⟨w.heap.size, 0, none⟩) := hF.slot 2 (by kernel_rfl)
    have f4 : slotOf a 4 = .pointer (some ⟨w.heap.size + 1, 0, none⟩) := hF.slot 4 (by kernel_rfl)
    have f5 : slotOf a 5 = i64 0 := hF.slot 5 (by kernel_rfl)
    obtain ⟨b, cs, d8, hzb, hb, hcs⟩ := hA 8 (by decide)
    have f6 : slotOf a 6 = .pointer (some ⟨b, 0, none⟩) := (List.cons.inj d8).1
    have f7 : slotOf a 7 = i64 (askE B (inB shore 0 1)) := (List.cons.inj (hA 9 (by decide))).1
    rw [act_eta a 38 hF.size hF.defers]
    simp only [show List.range 38 = [0, 1, 2, 3, 4, 5, 6, 7, 8, 9, 10, 11, 12, 13, 14, 15, 16, 17, 18, 19, 20, 21, 22, 23, 24, 25, 26, 27, 28, 29, 30, 31, 32, 33, 34, 35, 36, 37] from rfl, List.map_cons, List.map_nil, f0, f1, f2, f4, f5, f6, f7]
    clear hA hF d8 f0 f1 f2 f4 f5 f6 f7
    have hz1 : w1.heap[w.heap.size + 1]? = some (.cells #[i64 0, i64 0] 24 (0, 0)) := (hR.old _ (by omega)).trans (heap_alloc2_new w _ _)
    have hrc := cells_of hz1
    have hrf := frozen_of hz1
    have hrl := (Array.getElem?_eq_some_iff.1 hz1).1
    have hb1 : Below w.heap.size w w1 := hb0.trans (hR.below.mono (by omega))
    have hbc := cells_of hb
    have hbl := (Array.getElem?_eq_some_iff.1 hb).1
    generalize hes : askE B (inB shore 0 1) = err at *
    by_cases he : err = 0
    · subst he
      obtain ⟨m, ca, cc, rfl, hMT, hCR⟩ := hcs.facts rfl
      have hsh : inB shore 0 1 = true := by
        cases hq : inB shore 0 1
        · rw [hq] at hes; exact absurd hes (by unfold askE; split <;> simp)
        · rfl
      have hne : 0 < (cansB B).length := by
        rw [hsh] at hes
        unfold askE at hes
        cases hc : ext0 B (dep B.sounds []) with
        | nil => rw [hc] at hes; revert hes; split <;> simp
        | cons x l => simp [cansB, hc]
      have hfl : Hid (floorR B shore = (minL ((cansB B).map (fAt shore)), maxL (((cansB B).map (fAt shore)).head?.getD 0) ((cansB B).map (fAt shore)), 0)) := Lib.hid (by simp [floorR, hes])
      have hval : B.valid = true := by
        cases hq : B.valid
        · rw [askE, hq] at hes; simp at hes
        · rfl
      have hV := VB.of_valid hval
      have hel : (cansB B).length ≤ 1000 := by
        have := preC0_len B (dep B.sounds []) (B.s0.fh - B.s0.fl + 1).toNat hV.sh1
        have := hV.sh0.near
        unfold cansB ext0
        omega
      clear hes hcs hval
      obtain ⟨cb, a', c', heq, hca, _⟩ := cans_of_row hCR hel
      obtain ⟨rfl, rfl⟩ : ca = a' ∧ cc = c' := by simpa using heq
      clear heq
      have hss : shore = 0 ∨ shore = 1 := by simp [inB] at hsh; omega
      clear hsh
      rcases hss with rfl | rfl
      · have hfat : ∀ k (h : k < (cansB B).length), ((cansB B).take (k + 1)).map (fun f => i64 (fAt 0 f)) = ((cansB B).take k).map (fun f => i64 (fAt 0 f)) ++ [i64 (cansB B)[k].1] := fun k h => by
          rw [List.take_succ_eq_append_getElem h, List.map_append]; rfl
        have hfat := Lib.hid hfat
        go_wp2_with fail
        go_loopw [25, 8] (fun i v wr => ∃ k : Nat, k ≤ (cansB B).length ∧ i = .int .i64 k ∧ wr.ownsRow w1.heap.size 3 1 v k (((cansB B).take k).map (fun f => i64 (fAt 0 f))) ∧ Below w1.heap.size w1 wr) (fun i _ _ => (cansB B).length - (intOf i).toNat)
        case atStart => exact ⟨0, Nat.zero_le _, rfl, World.ownsRow_nil _ _ _ _, Below.refl _ _⟩
        case round =>
          obtain ⟨k, hk, rfl, hrow, hbw⟩ := hrel
          have hwz := hbw.size
          by_cases hlt : k < (cansB B).length
          · have hca1 := hca.same (Same.of_below hbw)
            have hidx := idx91 (n := (cansB B).length) (c := cc) (k := k) wr (hca1.at_ (ne_nil_of_lt hlt)) hlt
            have hc1 := hca1.fst k hlt
            have hc2 := hca1.snd k hlt
            rw [Nat.zero_add] at hc1 hc2
            obtain ⟨i0, hi, hz0, hz1', hz2⟩ := info_parts info3
            have hnews := cell_one_after wr (.cells #[i64 (cansB B)[k].1, i64 (cansB B)[k].2] 99) (i64 (cansB B)[k].1) 3
            go_wp2_with (at_builtin; refine wpList_append_own _ rfl _ _ 40 rfl w1.heap.size 3 i0 (i64 0) 1 8 Tryd.underlying40 hi hz0 hz1' hz2 rfl (by decide) _ _ _ rfl ((hrow.alloc _).alloc _) ⟨wr.heap.size + 1, 0, none⟩ 1 1 [i64 (cansB B)[k].1] rfl rfl hnews (by simp [Value.oneCell']) (by unfold maxLen; omega) (by omega) (by simp; omega) ?_; intro v' w3 hown' hgrow hnil; rw [← hfat.out k hlt] at hown'; obtain ⟨g', cap', rfl⟩ := ownsRow_succ hown')
            have hbw3 : Below w1.heap.size w1 w3 := ((hbw.alloc hwz _).alloc (by simp; omega) _).grown hgrow (by simp; omega) (fun j e => (hrow.lt j e).1)
            go_roundw
            case rel => exact ⟨k + 1, by omega, by go_num, hown', hbw3⟩
            case measure => simp [intOf]; omega
          · have hke : k = (cansB B).length := by omega
            have hrow' : wr.ownsRow w1.heap.size 3 1 u8 ((cansB B).map (fAt 0)).length (((cansB B).map (fAt 0)).map i64) := by
              rw [hke, List.take_length] at hrow
              simpa [List.map_map, Function.comp_def] using hrow
            have hk' : ¬ (k : Int) < ((cansB B).length : Int) := by omega
            clear hke hrow
            have hel' : ((cansB B).map (fAt 0)).length ≤ 1000 := by simpa using hel
            have hne' : 0 < ((cansB B).map (fAt 0)).length := by simpa using hne
            obtain ⟨L, hL⟩ : ∃ L, (cansB B).map (fAt 0) = L := ⟨_, rfl⟩
            rw [hL] at hrow' hel' hne' hfl
            clear hL
            obtain ⟨b2, o2, a2, c2, rfl, hI, _⟩ := ints_of_row hrow' hel'
            have hz2 := (hbw.block _ hrl).trans hz1
            have hl2 := (Array.getElem?_eq_some_iff.1 hz2).1
            go_wp2_with (go_at_call 75; refine (ends_any wr.heap.size b2 o2 a2 c2 _ _ hI hne' (Nat.le_refl _)).mono ?_; rintro e w' ⟨rfl, hb3⟩; have hz3 := (hb3.block _ hl2).trans hz2; have hrc3 := cells_of hz3; have hrf3 := frozen_of hz3; have hrl3 := (Array.getElem?_eq_some_iff.1 hz3).1; have hb4 := hb1.trans ((hbw.trans (hb3.mono hwz)).mono hb1.size))
            refine bodyPost_ret (results_cell_tmp rfl _ _ (w.heap.size + 1) 24 #[i64 (minL L), i64 (maxL (L.head?.getD 0) L)] (0, 0) _ rfl ?_ Tryd.underlying24 rfl (by kernel_rfl)) rfl ?_
            · exact set_two1 (set_two0 hz3 _) _
            · exact ⟨by rw [hfl.out]; rfl, (hb4.setCell (p := ⟨w.heap.size + 1, 0, none⟩) (by show w.heap.size ≤ w.heap.size + 1; omega) _).setCell (p := ⟨w.heap.size + 1, 1, none⟩) (by show w.heap.size ≤ w.heap.size + 1; omega) _⟩
      · have hfat : ∀ k (h : k < (cansB B).length), ((cansB B).take (k + 1)).map (fun f => i64 (fAt 1 f)) = ((cansB B).take k).map (fun f => i64 (fAt 1 f)) ++ [i64 (cansB B)[k].2] := fun k h => by
          rw [List.take_succ_eq_append_getElem h, List.map_append]; rfl
        have hfat := Lib.hid hfat
        go_wp2_with fail
        go_loopw [25, 8] (fun i v wr => ∃ k : Nat, k ≤ (cansB B).length ∧ i = .int .i64 k ∧ wr.ownsRow w1.heap.size 3 1 v k (((cansB B).take k).map (fun f => i64 (fAt 1 f))) ∧ Below w1.heap.size w1 wr) (fun i _ _ => (cansB B).length - (intOf i).toNat)
        case atStart => exact ⟨0, Nat.zero_le _, rfl, World.ownsRow_nil _ _ _ _, Below.refl _ _⟩
        case round =>
          obtain ⟨k, hk, rfl, hrow, hbw⟩ := hrel
          have hwz := hbw.size
          by_cases hlt : k < (cansB B).length
          · have hca1 := hca.same (Same.of_below hbw)
            have hidx := idx91 (n := (cansB B).length) (c := cc) (k := k) wr (hca1.at_ (ne_nil_of_lt hlt)) hlt
            have hc1 := hca1.fst k hlt
            have hc2 := hca1.snd k hlt
            rw [Nat.zero_add] at hc1 hc2
            obtain ⟨i0, hi, hz0, hz1', hz2⟩ := info_parts info3
            have hnews := cell_one_after wr (.cells #[i64 (cansB B)[k].1, i64 (cansB B)[k].2] 99) (i64 (cansB B)[k].2) 3
            go_wp2_with (at_builtin; refine wpList_append_own _ rfl _ _ 40 rfl w1.heap.size 3 i0 (i64 0) 1 8 Tryd.underlying40 hi hz0 hz1' hz2 rfl (by decide) _ _ _ rfl ((hrow.alloc _).alloc _) ⟨wr.heap.size + 1, 0, none⟩ 1 1 [i64 (cansB B)[k].2] rfl rfl hnews (by simp [Value.oneCell']) (by unfold maxLen; omega) (by omega) (by simp; omega) ?_; intro v' w3 hown' hgrow hnil; rw [← hfat.out k hlt] at hown'; obtain ⟨g', cap', rfl⟩ := ownsRow_succ hown')
            have hbw3 : Below w1.heap.size w1 w3 := ((hbw.alloc hwz _).alloc (by simp; omega) _).grown hgrow (by simp; omega) (fun j e => (hrow.lt j e).1)
            go_roundw
            case rel => exact ⟨k + 1, by omega, by go_num, hown', hbw3⟩
            case measure => simp [intOf]; omega
          · have hke : k = (cansB B).length := by omega
            have hrow' : wr.ownsRow w1.heap.size 3 1 u8 ((cansB B).map (fAt 1)).length (((cansB B).map (fAt 1)).map i64) := by
              rw [hke, List.take_length] at hrow
              simpa [List.map_map, Function.comp_def] using hrow
            have hk' : ¬ (k : Int) < ((cansB B).length : Int) := by omega
            clear hke hrow
            have hel' : ((cansB B).map (fAt 1)).length ≤ 1000 := by simpa using hel
            have hne' : 0 < ((cansB B).map (fAt 1)).length := by simpa using hne
            obtain ⟨L, hL⟩ : ∃ L, (cansB B).map (fAt 1) = L := ⟨_, rfl⟩
            rw [hL] at hrow' hel' hne' hfl
            clear hL
            obtain ⟨b2, o2, a2, c2, rfl, hI, _⟩ := ints_of_row hrow' hel'
            have hz2 := (hbw.block _ hrl).trans hz1
            have hl2 := (Array.getElem?_eq_some_iff.1 hz2).1
            go_wp2_with (go_at_call 75; refine (ends_any wr.heap.size b2 o2 a2 c2 _ _ hI hne' (Nat.le_refl _)).mono ?_; rintro e w' ⟨rfl, hb3⟩; have hz3 := (hb3.block _ hl2).trans hz2; have hrc3 := cells_of hz3; have hrf3 := frozen_of hz3; have hrl3 := (Array.getElem?_eq_some_iff.1 hz3).1; have hb4 := hb1.trans ((hbw.trans (hb3.mono hwz)).mono hb1.size))
            refine bodyPost_ret (results_cell_tmp rfl _ _ (w.heap.size + 1) 24 #[i64 (minL L), i64 (maxL (L.head?.getD 0) L)] (0, 0) _ rfl ?_ Tryd.underlying24 rfl (by kernel_rfl)) rfl ?_
            · exact set_two1 (set_two0 hz3 _) _
            · exact ⟨by rw [hfl.out]; rfl, (hb4.setCell (p := ⟨w.heap.size + 1, 0, none⟩) (by show w.heap.size ≤ w.heap.size + 1; omega) _).setCell (p := ⟨w.heap.size + 1, 1, none⟩) (by show w.heap.size ≤ w.heap.size + 1; omega) _⟩
    · have hfl : Hid (floorR B shore = (0, 0, err)) := Lib.hid (by simp [floorR, hes, he])
      have hes' := Lib.hid hes
      clear hes
      have he' := Lib.hid he
      have hq : (err != 0) = true := by simp [he]
      clear he
      go_wp2_with fail
      refine bodyPost_ret (results_cell_tmp rfl _ _ (w.heap.size + 1) 24 #[i64 0, i64 0] (0, 0) _ rfl ?_ Tryd.underlying24 rfl (by kernel_rfl)) rfl ?_
      · exact set_two1 (set_two0 hz1 _) _
      · exact ⟨by rw [hfl.out]; rfl, (hb1.setCell (p := ⟨w.heap.size + 1, 0, none⟩) (by show w.heap.size ≤ w.heap.size + 1; omega) _).setCell (p := ⟨w.heap.size + 1, 1, none⟩) (by show w.heap.size ≤ w.heap.size + 1; omega) _⟩
end Go.Proofs.YtkbmpkdflgimmaaDoor
/- Plain laws: what the lists of heights and bottoms hold. -/
namespace Go.Proofs.YtkbmpkdflgimmaaDoor

theorem mem_hList {t : Span} {D : Int → Int → List Int} {hr f0 f1 h : Int} : h ∈ hList t D hr f0 f1 ↔ (t.lo ≤ h ∧ h ≤ t.hi) ∧ rightB D hr h f0 f1 = true := by
  unfold hList preL
  simp only [List.mem_filter, List.mem_map, List.mem_range]
  constructor
  · rintro ⟨⟨n, hn, rfl⟩, hr⟩
    exact ⟨⟨by omega, by omega⟩, hr⟩
  · rintro ⟨⟨h1, h2⟩, hr⟩
    exact ⟨⟨(h - t.lo).toNat, by omega, by omega⟩, hr⟩
theorem mem_ext0 {B : Book} {D : Int → Int → List Int} {f : Int × Int} : f ∈ ext0 B D ↔ (B.s0.fl ≤ f.1 ∧ f.1 ≤ B.s0.fh) ∧ (B.s1.fl ≤ f.2 ∧ f.2 ≤ B.s1.fh) ∧ canB B D f.1 f.2 = true := by
  obtain ⟨f0, f1⟩ := f
  unfold ext0 preC0 ext1 preC1 extC
  simp only [List.mem_flatMap, List.mem_range]
  constructor
  · rintro ⟨n, hn, m, hm, hx⟩
    split at hx
    · rename_i hc
      simp at hx
      obtain ⟨rfl, rfl⟩ := hx
      exact ⟨⟨by first | omega | (dsimp only; omega), by first | omega | (dsimp only; omega)⟩, ⟨by first | omega | (dsimp only; omega), by first | omega | (dsimp only; omega)⟩, hc⟩
    · cases hx
  · rintro ⟨⟨a1, a2⟩, ⟨b1, b2⟩, hc⟩
    refine ⟨(f0 - B.s0.fl).toNat, by omega, (f1 - B.s1.fl).toNat, by omega, ?_⟩
    have e0 : B.s0.fl + ((f0 - B.s0.fl).toNat : Int) = f0 := by omega
    have e1 : B.s1.fl + ((f1 - B.s1.fl).toNat : Int) = f1 := by omega
    rw [e0, e1, if_pos hc]
    simp
/-- All soundings of an hour, but some, are right. -/
def FitH (l : List Sound) (but : List Int) (hr h f0 f1 : Int) : Prop := ∀ (i : Nat) (y : Sound), l[i]? = some y → (i : Int) ∉ but → y.hour = hr → (y.shore = 0 → h - f0 = y.deep) ∧ (y.shore = 1 → h - f1 = y.deep)
theorem mem_dep {l : List Sound} {but : List Int} {h s d : Int} : d ∈ dep l but h s ↔ ∃ (i : Nat) (y : Sound), l[i]? = some y ∧ (i : Int) ∉ but ∧ y.hour = h ∧ y.shore = s ∧ y.deep = d := by
  unfold dep depK
  simp only [List.mem_filterMap, List.mem_range]
  constructor
  · rintro ⟨i, hi, hx⟩
    cases hy : l[i]? with
    | none => simp [hy] at hx
    | some y =>
      simp only [hy] at hx
      split at hx
      · rename_i hc
        simp at hc hx
        exact ⟨i, y, hy, hc.2, hc.1.1, hc.1.2, hx⟩
      · simp at hx
  · rintro ⟨i, y, hy, hb, h1, h2, h3⟩
    refine ⟨i, (List.getElem?_eq_some_iff.1 hy).1, ?_⟩
    simp [hy, h1, h2, h3, hb]
theorem rightB_dep {l : List Sound} {but : List Int} {hr h f0 f1 : Int} : rightB (dep l but) hr h f0 f1 = true ↔ FitH l but hr h f0 f1 := by
  unfold rightB FitH
  simp only [Bool.and_eq_true, List.all_eq_true, mem_dep, beq_iff_eq]
  constructor
  · rintro ⟨h0, h1⟩ i y hy hb hh
    exact ⟨fun e => h0 _ ⟨i, y, hy, hb, hh, e, rfl⟩, fun e => h1 _ ⟨i, y, hy, hb, hh, e, rfl⟩⟩
  · intro H
    refine ⟨?_, ?_⟩
    · rintro d ⟨i, y, hy, hb, hh, hs, rfl⟩
      exact (H i y hy hb hh).1 hs
    · rintro d ⟨i, y, hy, hb, hh, hs, rfl⟩
      exact (H i y hy hb hh).2 hs
def tideAt (B : Book) (hr : Int) : Span := B.tides.getD hr.toNat ⟨0, 0⟩
/-- A height that an hour can have, with some bottoms, without some soundings. -/
def HH (B : Book) (but : List Int) (hr : Int) (f : Int × Int) (h : Int) : Prop := ((tideAt B hr).lo ≤ h ∧ h ≤ (tideAt B hr).hi) ∧ FitH B.sounds but hr h f.1 f.2
/-- Bottoms that there can be. -/
def CC (B : Book) (but : List Int) (f : Int × Int) : Prop := (B.s0.fl ≤ f.1 ∧ f.1 ≤ B.s0.fh) ∧ (B.s1.fl ≤ f.2 ∧ f.2 ≤ B.s1.fh) ∧ ∀ hr : Nat, hr < B.tides.length → ∃ h, HH B but hr f h
def hts (B : Book) (hr : Int) (f : Int × Int) : List Int := hList (tideAt B hr) (dep B.sounds []) hr f.1 f.2
theorem mem_hts' {B : Book} {but : List Int} {hr : Int} {f : Int × Int} {h : Int} : h ∈ hList (tideAt B hr) (dep B.sounds but) hr f.1 f.2 ↔ HH B but hr f h := by
  rw [mem_hList, rightB_dep]; rfl
theorem mem_hts {B : Book} {hr : Int} {f : Int × Int} {h : Int} : h ∈ hts B hr f ↔ HH B [] hr f h := mem_hts'
theorem tideAt_nat {B : Book} {hr : Nat} (h : hr < B.tides.length) : tideAt B hr = B.tides[hr] := by
  unfold tideAt; simp [h]
theorem mem_ext0_dep {B : Book} {but : List Int} {f : Int × Int} : f ∈ ext0 B (dep B.sounds but) ↔ CC B but f := by
  rw [mem_ext0]
  unfold CC canB
  refine and_congr_right fun _ => and_congr_right fun _ => ?_
  rw [List.all_eq_true]
  refine forall_congr' fun hr => ?_
  rw [List.mem_range]
  refine forall_congr' fun hlt => ?_
  rw [List.getElem?_eq_getElem hlt]
  simp only [Bool.not_eq_true', List.isEmpty_eq_false_iff_exists_mem]
  refine exists_congr fun h => ?_
  rw [← tideAt_nat hlt]
  exact mem_hts'
theorem mem_cansB {B : Book} {f : Int × Int} : f ∈ cansB B ↔ CC B [] f := mem_ext0_dep
/-- The deck surely lands; it can land. -/
def sureB (B : Book) (s hr load : Int) : Bool := mustB B s load (tideAt B hr) (dep B.sounds []) hr (cansB B)
def maybeB (B : Book) (s hr load : Int) : Bool := mayB B s load (tideAt B hr) (dep B.sounds []) hr (cansB B)
theorem sureB_iff {B : Book} {s hr load : Int} : sureB B s hr load = true ↔ ∀ f, CC B [] f → ∀ h, HH B [] hr f h → landsB B s load h (fAt s f) B.eh = true := by
  unfold sureB mustB
  simp only [List.all_eq_true]
  constructor
  · intro H f hf h hh; exact H f (mem_cansB.2 hf) h (mem_hts.2 hh)
  · intro H f hf h hh; exact H f (mem_cansB.1 hf) h (mem_hts.1 hh)
theorem maybeB_iff {B : Book} {s hr load : Int} : maybeB B s hr load = true ↔ ∃ f, CC B [] f ∧ ∃ h, HH B [] hr f h ∧ landsB B s load h (fAt s f) B.el = true := by
  unfold maybeB mayB
  simp only [List.any_eq_true]
  constructor
  · rintro ⟨f, hf, h, hh, hl⟩; exact ⟨f, mem_cansB.1 hf, h, mem_hts.1 hh, hl⟩
  · rintro ⟨f, hf, h, hh, hl⟩; exact ⟨f, mem_cansB.2 hf, h, mem_hts.2 hh, hl⟩
theorem cans_ne {B : Book} : (cansB B).isEmpty = false ↔ ∃ f, CC B [] f := by
  rw [List.isEmpty_eq_false_iff_exists_mem]
  exact exists_congr fun f => mem_cansB
/-- What the exported functions answer. -/
def heightL (B : Book) (hr : Int) : List Int := (cansB B).flatMap fun f => hts B hr f
def hourB (B : Book) (hr : Int) : Bool := inB hr 0 ((B.tides.length : Int) - 1)
def heightR (B : Book) (hr : Int) : Int × Int × Int := if askE B (hourB B hr) = 0 then (minL (heightL B hr), maxL ((heightL B hr).head?.getD 0) (heightL B hr), 0) else (0, 0, askE B (hourB B hr))
def askL (B : Book) (s hr load : Int) : Bool := (inB s 0 1 && hourB B hr) && inB load 0 200
def landsR (B : Book) (s hr load : Int) : Int × Int := if askE B (askL B s hr load) = 0 then ((if maybeB B s hr load then 1 else 0) + (if sureB B s hr load then 1 else 0), 0) else (0, askE B (askL B s hr load))
def askM (B : Book) (s hr : Int) : Bool := inB s 0 1 && hourB B hr
def mostO : Option Nat → Int × Int
  | some n => (200 - (n : Int), 0)
  | none => (0, 4)
def firstO : Option Nat → Int × Int
  | some h => ((h : Int), 0)
  | none => (0, 4)
def mostR (B : Book) (s hr : Int) : Int × Int := if askE B (askM B s hr) = 0 then mostO ((List.range 201).find? fun (n : Nat) => sureB B s hr (200 - (n : Int))) else (0, askE B (askM B s hr))
def askF (s load : Int) : Bool := inB s 0 1 && inB load 0 200
def firstR (B : Book) (s load : Int) : Int × Int := if askE B (askF s load) = 0 then firstO ((List.range B.tides.length).find? fun (h : Nat) => sureB B s h load) else (0, askE B (askF s load))
def bothL (B : Book) (load : Int) (k : Nat) : List Int := ((List.range k).filter fun (h : Nat) => sureB B 0 h load && sureB B 1 h load).map fun (h : Nat) => (h : Int)
def bothR (B : Book) (load : Int) : List Int × Int := if askE B (inB load 0 200) = 0 then (bothL B load B.tides.length, 0) else ([], askE B (inB load 0 200))
end Go.Proofs.YtkbmpkdflgimmaaDoor
/- Guarded operations under the law for drawn regions. -/
namespace Go.Proofs.YtkbmpkdflgimmaaDoor
open Go.RowKit Go.Shelf
section
variable {P : Program} {l : List Oper} {Q : Exit → Act → World → Prop} {rd : Nat → List Nat} {pure : Nat → Bool} {G : Nat → List Value → World → Prop} {R : World → World → Prop} {i : Nat} {o : Oper} {a : Act} {w : World}
theorem wanted_of {j d : Nat} {want b : Bool} (hg : o.guard = some (j, want)) (hd : (l[j]?).bind (·.dst) = some d) (hs : slotOf a d = .bool b) : Region.wanted o (yielded l.toArray a.tmps) = (b == want) := by
  have ht : a.tmps[d]? = some (.bool b) := by
    unfold slotOf at hs
    rw [Array.getD_eq_getD_getElem?] at hs
    cases h : a.tmps[d]? with
    | none => rw [h] at hs; cases hs
    | some v => rw [h] at hs; exact congrArg some hs
  simp only [Region.wanted, hg, yielded, List.getElem?_toArray, hd, Option.bind_some, ht]
  cases b <;> cases want <;> rfl
theorem wanted_none (hg : o.guard = none) : Region.wanted o (yielded l.toArray a.tmps) = true := by simp [Region.wanted, hg]
theorem rgw_val (hw : Region.wanted o (yielded l.toArray a.tmps) = true) (v : Value) (h : (execOp a.eval o).run P w = .ok (.value v) w) (hR : R w w) (hG : G i (valsOf rd i (a.put o.dst v)) w) : RgStep P l Q rd pure G R i o a w := by
  unfold RgStep
  rw [if_pos hw]
  unfold Oper.wp
  rw [h]
  exact ⟨v, rfl, hR, fun _ => rfl, hG⟩
theorem rgw_skip (hw : Region.wanted o (yielded l.toArray a.tmps) = false) (hG : G i (valsOf rd i (a.put o.dst undef)) w) : RgStep P l Q rd pure G R i o a w := by
  unfold RgStep
  rw [if_neg (by rw [hw]; exact Bool.false_ne_true)]
  exact hG
theorem rgw_call (hw : Region.wanted o (yielded l.toArray a.tmps) = true) (f : FuncId) (args : Array Value) (h : (execOp a.eval o).run P w = .ok (.enter f args) w) (hp : pure i = false)
    (hc : Calls P f args w fun e w' => ∃ v, e = .returned v ∧ R w w' ∧ G i (valsOf rd i (a.put o.dst v)) w') : RgStep P l Q rd pure G R i o a w := by
  unfold RgStep
  rw [if_pos hw]
  unfold Oper.wp
  rw [h]
  refine Calls.mono hc ?_
  rintro e w' ⟨v, rfl, hR, hG⟩
  exact ⟨v, rfl, hR, (fun h => by rw [hp] at h; cases h), hG⟩
theorem ex_pick (c x y : Operand) (ho : o.op = .pick c x y) (b : Bool) (hc : a.eval c = .bool b) : (execOp a.eval o).run P w = .ok (.value (if b then a.eval x else a.eval y)) w := by
  unfold execOp
  simp only [ho, hc, asBool, Sem.run_bind, Sem.run_pure, Result.andThen_ok]
end
theorem slot_tmps {a : Act} {k : Nat} {v : Value} (h : slotOf a k = v) : a.tmps[k]?.getD undef = v := by simpa [slotOf] using h

theorem ask_zero {B : Book} {is : Bool} (h : askE B is = 0) : B.valid = true ∧ is = true ∧ 0 < (cansB B).length := by
  unfold askE at h
  split at h
  · rename_i hv
    split at h
    · rename_i hi
      split at h
      · cases h
      · rename_i hc
        refine ⟨hv, hi, ?_⟩
        unfold cansB
        cases hx : ext0 B (dep B.sounds []) with
        | nil => rw [hx] at hc; exact absurd rfl hc
        | cons x l => simp
    · cases h
  · cases h
theorem VB.len {B : Book} (hV : VB B) : (cansB B).length ≤ 1000 := by
  have := preC0_len B (dep B.sounds []) (B.s0.fh - B.s0.fl + 1).toNat hV.sh1
  have := hV.sh0.near
  unfold cansB ext0
  omega
theorem VB.ok {B : Book} (hV : VB B) (but : List Int) : CansOk (ext0 B (dep B.sounds but)) := by
  intro f hf
  obtain ⟨⟨a1, a2⟩, ⟨b1, b2⟩, _⟩ := mem_ext0.1 hf
  have := hV.sh0.lo
  have := hV.sh0.hi
  have := hV.sh1.lo
  have := hV.sh1.hi
  exact ⟨⟨by omega, by omega⟩, by omega, by omega⟩
/-- What asked hands back, if it hands back no error. -/
structure Good (B : Book) (ta : Option Addr) (tc : Nat) (sa : Option Addr) (sc : Nat) (W : World) (b m : Nat) (ca : Option Addr) (cc cb : Nat) : Prop where
  vb : VB B
  box : W.heap[b]? = some (.cells (calcCells B ta tc sa sc m (.slice ca (cansB B).length cc)) 93 (0, 0))
  map : MapIn W.heap.size W m (dep B.sounds [])
  cans : CansAt W.heap.size W cb 0 ca (cansB B)
  pos : 0 < (cansB B).length
theorem Good.of {z : Nat} {B : Book} {ta : Option Addr} {tc : Nat} {sa : Option Addr} {sc : Nat} {W : World} {is : Bool} {cs : Array Value} {b : Nat} (he : askE B is = 0) (h : AskCs z B ta tc sa sc (askE B is) W cs) (hb : W.heap[b]? = some (.cells cs 93 (0, 0))) :
    is = true ∧ ∃ m ca cc cb, Good B ta tc sa sc W b m ca cc cb := by
  obtain ⟨hv, hi, hp⟩ := ask_zero he
  obtain ⟨m, ca, cc, rfl, hM, hC⟩ := h.facts he
  have hV := VB.of_valid hv
  obtain ⟨cb, a', c', heq, hca, _⟩ := cans_of_row hC hV.len
  obtain ⟨rfl, rfl⟩ : ca = a' ∧ cc = c' := by simpa using heq
  refine ⟨hi, m, ca, cc, cb, hV, hb, hM.mapIn (fun x y => ?_), hca, hp⟩
  have := depK_len B.sounds [] B.sounds.length x y
  have := hV.s6
  unfold dep
  omega
theorem Good.below {B : Book} {ta : Option Addr} {tc : Nat} {sa : Option Addr} {sc : Nat} {W W' : World} {b m : Nat} {ca : Option Addr} {cc cb : Nat} (h : Good B ta tc sa sc W b m ca cc cb) (hb : Below W.heap.size W W') : W'.heap[b]? = some (.cells (calcCells B ta tc sa sc m (.slice ca (cansB B).length cc)) 93 (0, 0)) ∧ MapIn W.heap.size W' m (dep B.sounds []) ∧ CansAt W.heap.size W' cb 0 ca (cansB B) :=
  ⟨(hb.block _ (Array.getElem?_eq_some_iff.1 h.box).1).trans h.box, h.map.same (Same.of_below hb), h.cans.same (Same.of_below hb)⟩
theorem must_c {B : Book} {tb tq : Nat} {ta : Option Addr} {tc : Nat} {sa : Option Addr} {sc : Nat} {W : World} {b m : Nat} {ca : Option Addr} {cc cb : Nat} (h : Good B ta tc sa sc W b m ca cc cb) (hT : SpansAt W.heap.size W tb tq ta B.tides) (hr : Nat) (hlt : hr < B.tides.length) (s load : Int)
    (hs : s = 0 ∨ s = 1) (l0 : 0 ≤ load) (l1 : load ≤ 1000) (w : World) (hb : Below W.heap.size W w) :
    Calls Tryd.prog 79 #[calcVal B ta tc sa sc m (.slice ca (cansB B).length cc), .agg #[i64 hr, i64 s], i64 load] w (SomePost (sureB B s hr load) w) := by
  obtain ⟨_, h2, h3⟩ := h.below hb
  have := callsIn_wide.1 (must_in 3 (Nat.le_refl _) W.heap.size B tb tq ta tc sa sc m cb 0 ca (cansB B) cc (dep B.sounds []) hr (h.vb.hour hr hlt) s load h.vb.sane hs l0 l1 (h.vb.ok []) w hb.size (hT.same (Same.of_below hb)) h2 h3)
  unfold sureB
  rw [tideAt_nat hlt]
  exact this
theorem may_c {B : Book} {tb tq : Nat} {ta : Option Addr} {tc : Nat} {sa : Option Addr} {sc : Nat} {W : World} {b m : Nat} {ca : Option Addr} {cc cb : Nat} (h : Good B ta tc sa sc W b m ca cc cb) (hT : SpansAt W.heap.size W tb tq ta B.tides) (hr : Nat) (hlt : hr < B.tides.length) (s load : Int)
    (hs : s = 0 ∨ s = 1) (l0 : 0 ≤ load) (l1 : load ≤ 1000) (w : World) (hb : Below W.heap.size W w) :
    Calls Tryd.prog 122 #[calcVal B ta tc sa sc m (.slice ca (cansB B).length cc), .agg #[i64 hr, i64 s], i64 load] w (SomePost (maybeB B s hr load) w) := by
  obtain ⟨_, h2, h3⟩ := h.below hb
  have := callsIn_wide.1 (may_in 3 (Nat.le_refl _) W.heap.size B tb tq ta tc sa sc m cb 0 ca (cansB B) cc (dep B.sounds []) hr (h.vb.hour hr hlt) s load h.vb.sane hs l0 l1 (h.vb.ok []) w hb.size (hT.same (Same.of_below hb)) h2 h3)
  unfold maybeB
  rw [tideAt_nat hlt]
  exact this
theorem inB_iff {n lo hi : Int} : inB n lo hi = true ↔ lo ≤ n ∧ n ≤ hi := by simp [inB]
end Go.Proofs.YtkbmpkdflgimmaaDoor
