/- The contract of Floor. -/
import Derived.Test.YtkbmpkdflgimmaaDoorAskReg
namespace Go.Proofs.YtkbmpkdflgimmaaDoor
open Go.RowKit Go.Shelf

theorem AskCs.ra {z z' : Nat} {B : Book} {ta : Option Addr} {tc : Nat} {sa : Option Addr} {sc : Nat} {err : Int} {W W' : World} {cs : Array Value} (h : AskCs z B ta tc sa sc err W cs) (hr : RA z' W W') : AskCs z B ta tc sa sc err W' cs :=
  ⟨h.size, h.one, fun he => (h.facts he).ra hr⟩
theorem AskCs.down {z z' : Nat} {B : Book} {ta : Option Addr} {tc : Nat} {sa : Option Addr} {sc : Nat} {err : Int} {W : World} {cs : Array Value} (h : AskCs z B ta tc sa sc err W cs) (hz : z' ≤ z) : AskCs z' B ta tc sa sc err W cs :=
  ⟨h.size, h.one, fun he => (h.facts he).down hz⟩
/-- A pair of what asked hands back. -/
def AskTup (z : Nat) (B : Book) (ta : Option Addr) (tc : Nat) (sa : Option Addr) (sc : Nat) (err : Int) (vs : List Value) (W : World) : Prop := ∃ cs, vs = [.tuple #[.agg cs, i64 err]] ∧ AskCs z B ta tc sa sc err W cs
def AskAgg (z : Nat) (B : Book) (ta : Option Addr) (tc : Nat) (sa : Option Addr) (sc : Nat) (err : Int) (vs : List Value) (W : World) : Prop := ∃ cs, vs = [.agg cs] ∧ AskCs z B ta tc sa sc err W cs
def AskBox (z : Nat) (vs : List Value) (W : World) : Prop := ∃ b c, vs = [.pointer (some ⟨b, 0, none⟩)] ∧ z ≤ b ∧ W.heap[b]? = some (.cells c 93 (0, 0)) ∧ c.size = 16
def AskVar (z : Nat) (B : Book) (ta : Option Addr) (tc : Nat) (sa : Option Addr) (sc : Nat) (err : Int) (vs : List Value) (W : World) : Prop := ∃ b cs, vs = [.pointer (some ⟨b, 0, none⟩)] ∧ z ≤ b ∧ W.heap[b]? = some (.cells cs 93 (0, 0)) ∧ AskCs z B ta tc sa sc err W cs
theorem AskTup.ra {z B ta tc sa sc err vs W W'} (h : AskTup z B ta tc sa sc err vs W) (hr : RA z W W') : AskTup z B ta tc sa sc err vs W' := by
  obtain ⟨cs, h1, h2⟩ := h
  exact ⟨cs, h1, h2.ra hr⟩
theorem AskAgg.ra {z B ta tc sa sc err vs W W'} (h : AskAgg z B ta tc sa sc err vs W) (hr : RA z W W') : AskAgg z B ta tc sa sc err vs W' := by
  obtain ⟨cs, h1, h2⟩ := h
  exact ⟨cs, h1, h2.ra hr⟩
theorem AskBox.ra {z vs W W'} (h : AskBox z vs W) (hr : RA z W W') : AskBox z vs W' := by
  obtain ⟨b, c, h1, h2, h3, h4⟩ := h
  obtain ⟨c', h5, h6⟩ := hr.box b c h3
  exact ⟨b, c', h1, h2, h5, h6.trans h4⟩
theorem wp_of_run {P : Program} {o : Oper} {a : Act} {w w' : World} {v : Value} {K : Act → World → Prop} {Q : Exit → Act → World → Prop} (h : (execOp a.eval o).run P w = .ok (.value v) w') (hK : K (a.put o.dst v) w') : o.wp P a w K Q := by
  unfold Oper.wp
  rw [h]
  exact hK
/-- What Floor answers: the span and the error. -/
def floorR (B : Book) (shore : Int) : Int × Int × Int := if askE B (inB shore 0 1) = 0 then (minL ((cansB B).map (fAt shore)), maxL (((cansB B).map (fAt shore)).head?.getD 0) ((cansB B).map (fAt shore)), 0) else (0, 0, askE B (inB shore 0 1))
def FloorPost (B : Book) (shore : Int) (w : World) (e : Ending) (w' : World) : Prop := e = .returned (.tuple #[.agg #[i64 (floorR B shore).1, i64 (floorR B shore).2.1], i64 (floorR B shore).2.2]) ∧ Below w.heap.size w w'
theorem cell_one_after (w : World) (o : Obj) (x : Value) (t : TypeId) : ∀ j u, [x][j]? = some u → ((w.alloc o).alloc (.cells #[x] t)).cell? ((⟨w.heap.size + 1, 0, none⟩ : Addr).add j) = some u := fun j u h => by
  have := cell_one_new (w.alloc o) x t j u h
  rwa [World.size_alloc] at this
def rdFloor (i : Nat) : List Nat := match i with
  | 0 => [12] | 1 => [13] | 2 => [14] | 3 => [15] | 4 => [11] | 5 => [16] | 6 => [17] | 7 => [6] | 8 => [6] | 9 => [7] | _ => []
def pureFloor (i : Nat) : Bool := match i with
  | 2 => false | 3 => false | 7 => false | 8 => false | _ => true
def gFloor (z : Nat) (B : Book) (ta : Option Addr) (tc : Nat) (sa : Option Addr) (sc : Nat) (shore : Int) (is : Bool) (i : Nat) (vs : List Value) (W : World) : Prop := match i with
  | 0 => vs = [.agg (bookCells B ta tc sa sc)]
  | 1 => vs = [i64 shore]
  | 2 => vs = [.bool is]
  | 3 => AskTup z B ta tc sa sc (askE B is) vs W
  | 4 => AskTup z B ta tc sa sc (askE B is) vs W
  | 5 => AskAgg z B ta tc sa sc (askE B is) vs W
  | 6 => vs = [i64 (askE B is)]
  | 7 => AskBox z vs W
  | 8 => AskVar z B ta tc sa sc (askE B is) vs W
  | 9 => vs = [i64 (askE B is)]
  | _ => True
set_option maxRecDepth 100000 in
set_option maxHeartbeats 2000000 in
theorem Floor_any (nA : Nat) (B : Book) (tb tq : Nat) (ta : Option Addr) (tc : Nat) (sb sq : Nat) (sa : Option Addr) (sc : Nat) (shore : Int) (w : World) (hn : nA ≤ w.heap.size) (hE : Env nA w B tb tq ta sb sq sa) :
    Calls Tryd.prog 28 #[bookVal B ta tc sa sc, i64 shore] w (FloorPost B shore w) := by
  have hb0 : Below w.heap.size w ((w.alloc (.cells (bookCells B ta tc sa sc) 30)).alloc (.cells #[i64 0, i64 0] 24)) := ((Below.refl _ w).alloc (Nat.le_refl _) _).alloc (by simp) _
  have hE0 := hE.below hn hb0
  have hx0 : ((w.alloc (.cells (bookCells B ta tc sa sc) 30)).alloc (.cells #[i64 0, i64 0] 24)).heap[w.heap.size]? = some (.cells (bookCells B ta tc sa sc) 30 (0, 0)) := (Below.heap_alloc _ _ _ (by simp)).trans (heap_alloc_new w _)
  go_enter Tryd.func28, Tryd.ntmps28
  go_wp2_with fail
  refine rg_region rdFloor pureFloor (gFloor (w.heap.size + 2) B ta tc sa sc shore (inB shore 0 1)) (RA (w.heap.size + 2)) (by kernel_rfl) (by kernel_rfl) (fun n => RA.drawn _ _ n) (RA.refl _) (fun _ _ _ => RA.trans) ?_ ?_ ?_
  · intro i hi vs w1 w2 hG hR
    match i, hi, hG with
    | 0, _, hG => exact hG
    | 1, _, hG => exact hG
    | 2, _, hG => exact hG
    | 3, _, hG => exact AskTup.ra hG hR
    | 4, _, hG => exact AskTup.ra hG hR
    | 5, _, hG => exact AskAgg.ra hG hR
    | 6, _, hG => exact hG
    | 7, _, hG => exact AskBox.ra hG hR
    | 8, hi, _ => exact absurd hi (Bool.eq_false_iff.1 (by kernel_rfl))
    | 9, _, hG => exact hG
    | _ + 10, _, _ => trivial
  · intro i o ho a w1 hR hF hD
    have s1 : a.eval (.tmp 1) = i64 shore := hF.slot 1 (by kernel_rfl)
    have s2 : a.eval (.tmp 2) = .pointer (some ⟨w.heap.size, 0, none⟩) := hF.slot 2 (by kernel_rfl)
    have sz : a.tmps.size = 38 := hF.size
    have hx := (hR.old w.heap.size (by omega)).trans hx0
    match i, ho, hD with
    | 0, ho, hD =>
      cases ho
      refine rg_val rfl (.agg (bookCells B ta tc sa sc)) (ex_load_row 30 _ rfl _ s2 30 _ (0, 0) _ hx Tryd.underlying30 rfl (by rw [size30]; rfl)) (RA.refl _ _) ?_
      exact congrArg (fun v => [v]) (slotOf_same a 12 _ (by omega))
    | 1, ho, hD =>
      cases ho
      refine rg_val rfl (i64 shore) (ex_move _ rfl _ s1) (RA.refl _ _) ?_
      exact congrArg (fun v => [v]) (slotOf_same a 13 _ (by omega))
    | 2, ho, hD =>
      cases ho
      have d1 : slotOf a 13 = i64 shore := (List.cons.inj (hD 1 (by decide))).1
      have e1 : a.tmps[13]?.getD undef = i64 shore := by simpa [slotOf] using d1
      refine rg_call rfl 76 #[i64 shore] ?_ rfl ?_
      · simp [go_sem, e1]
      · refine (isShore_any shore w1).mono ?_
        rintro e w2 ⟨rfl, rfl⟩
        exact ⟨_, rfl, RA.refl _ _, congrArg (fun v => [v]) (slotOf_same a 14 _ (by omega))⟩
    | 3, ho, hD =>
      cases ho
      have d0 : slotOf a 12 = .agg (bookCells B ta tc sa sc) := (List.cons.inj (hD 0 (by decide))).1
      have d2 : slotOf a 14 = .bool (inB shore 0 1) := (List.cons.inj (hD 2 (by decide))).1
      have e0 : a.tmps[12]?.getD undef = .agg (bookCells B ta tc sa sc) := by simpa [slotOf] using d0
      have e2 : a.tmps[14]?.getD undef = .bool (inB shore 0 1) := by simpa [slotOf] using d2
      have hz : w.heap.size + 2 ≤ w1.heap.size := by have := hR.size; simpa using this
      have hE1 := hE0.same ⟨hR.size, fun k hk => hR.old k (by omega)⟩
      refine rg_call rfl 72 #[bookVal B ta tc sa sc, .bool (inB shore 0 1)] ?_ rfl ?_
      · simp [go_sem, e0, e2]
      · refine (asked_any nA B tb tq ta tc sb sq sa sc (inB shore 0 1) w1 (by omega) hE1.gl hE1.tides hE1.sounds).mono ?_
        rintro e w2 ⟨cs, rfl, hb, hcs⟩
        exact ⟨_, rfl, RA.of_below hz hb, cs, congrArg (fun v => [v]) (slotOf_same a 15 _ (by omega)), hcs.down hz⟩
    | 4, ho, hD =>
      cases ho
      obtain ⟨cs, d3, hcs⟩ := hD 3 (by decide)
      have e3 : a.eval (.tmp 15) = _ := (List.cons.inj d3).1
      refine rg_val rfl _ (ex_move _ rfl _ e3) (RA.refl _ _) ?_
      exact ⟨cs, congrArg (fun v => [v]) (slotOf_same a 11 _ (by omega)), hcs⟩
    | 5, ho, hD =>
      cases ho
      obtain ⟨cs, d4, hcs⟩ := hD 4 (by decide)
      have e4 : a.eval (.tmp 11) = _ := (List.cons.inj d4).1
      refine rg_val rfl (.agg cs) (ex_extract _ _ rfl _ _ e4 rfl) (RA.refl _ _) ?_
      exact ⟨cs, congrArg (fun v => [v]) (slotOf_same a 16 _ (by omega)), hcs⟩
    | 6, ho, hD =>
      cases ho
      obtain ⟨cs, d4, hcs⟩ := hD 4 (by decide)
      have e4 : a.eval (.tmp 11) = _ := (List.cons.inj d4).1
      refine rg_val rfl (i64 (askE B (inB shore 0 1))) (ex_extract _ _ rfl _ _ e4 rfl) (RA.refl _ _) ?_
      exact congrArg (fun v => [v]) (slotOf_same a 17 _ (by omega))
    | 7, ho, hD =>
      cases ho
      have hz : w.heap.size + 2 ≤ w1.heap.size := by have := hR.size; simpa using this
      refine rg_wp rfl rfl ?_
      refine wp_of_run (v := .pointer (some ⟨w1.heap.size, 0, none⟩)) (w' := w1.alloc (.cells zero93 93)) ?_ ?_
      · simp [go_sem]
      · exact ⟨_, rfl, RA.of_below hz ((Below.refl _ _).alloc (Nat.le_refl _) _), _, _, congrArg (fun v => [v]) (slotOf_same a 6 _ (by omega)), hz, heap_alloc_new _ _, rfl⟩
    | 8, ho, hD =>
      cases ho
      obtain ⟨cs, d5, hcs⟩ := hD 5 (by decide)
      obtain ⟨b, c, d7, hzb, hb, hc⟩ := hD 7 (by decide)
      have e5 : a.eval (.tmp 16) = _ := (List.cons.inj d5).1
      have e7 : a.eval (.tmp 6) = _ := (List.cons.inj d7).1
      refine rg_wp rfl rfl ?_
      refine wp_store_row 93 _ _ rfl b cs e7 e5 93 c hb (by rw [size93, hcs.size]) (by rw [hc, hcs.size]) hcs.one ?_
      have hra := RA.store hzb hb (by rw [hc, hcs.size] : cs.size = c.size)
      exact ⟨undef, rfl, hra, b, cs, d7, hzb, setRow_heap _ _ _ _ _ _ hb, hcs.ra hra⟩
    | 9, ho, hD =>
      cases ho
      have d6 : a.eval (.tmp 17) = i64 (askE B (inB shore 0 1)) := (List.cons.inj (hD 6 (by decide))).1
      refine rg_val rfl _ (ex_assign _ rfl _ d6) (RA.refl _ _) ?_
      exact congrArg (fun v => [v]) (slotOf_same a 7 _ (by omega))
    | _ + 10, ho, _ => cases ho
  · intro a w1 hR hF hA
    have f0 : slotOf a 0 = bookVal B ta tc sa sc := hF.slot 0 (by kernel_rfl)
    have f1 : slotOf a 1 = i64 shore := hF.slot 1 (by kernel_rfl)
    have f2 : slotOf a 2 = .pointer (some ⟨w.heap.size, 0, none⟩) := hF.slot 2 (by kernel_rfl)
    have f4 : slotOf a 4 = .pointer (some ⟨w.heap.size + 1, 0, none⟩) := hF.slot 4 (by kernel_rfl)
    have f5 : slotOf a 5 = i64 0 := hF.slot 5 (by kernel_rfl)
    obtain ⟨b, cs, d8, hzb, hb, hcs⟩ := hA 8 (by decide)
    have f6 : slotOf a 6 = .pointer (some ⟨b, 0, none⟩) := (List.cons.inj d8).1
    have f7 : slotOf a 7 = i64 (askE B (inB shore 0 1)) := (List.cons.inj (hA 9 (by decide))).1
    rw [act_eta a 38 hF.size hF.defers]
    simp only [show List.range 38 = [0, 1, 2, 3, 4, 5, 6, 7, 8, 9, 10, 11, 12, 13, 14, 15, 16, 17, 18, 19, 20, 21, 22, 23, 24, 25, 26, 27, 28, 29, 30, 31, 32, 33, 34, 35, 36, 37] from rfl, List.map_cons, List.map_nil, f0, f1, f2, f4, f5, f6, f7]
    clear hA hF d8 f0 f1 f2 f4 f5 f6 f7
    have hz1 : w1.heap[w.heap.size + 1]? = some (.cells #[i64 0, i64 0] 24 (0, 0)) := (hR.old _ (by omega)).trans (heap_alloc2_new w _ _)
    have hrc := cells_of hz1
    have hrf := frozen_of hz1
    have hrl := (Array.getElem?_eq_some_iff.1 hz1).1
    have hb1 : Below w.heap.size w w1 := hb0.trans (hR.below.mono (by omega))
    have hbc := cells_of hb
    have hbl := (Array.getElem?_eq_some_iff.1 hb).1
    generalize hes : askE B (inB shore 0 1) = err at *
    by_cases he : err = 0
    · subst he
      obtain ⟨m, ca, cc, rfl, hMT, hCR⟩ := hcs.facts rfl
      have hsh : inB shore 0 1 = true := by
        cases hq : inB shore 0 1
        · rw [hq] at hes; exact absurd hes (by unfold askE; split <;> simp)
        · rfl
      have hne : 0 < (cansB B).length := by
        rw [hsh] at hes
        unfold askE at hes
        cases hc : ext0 B (dep B.sounds []) with
        | nil => rw [hc] at hes; revert hes; split <;> simp
        | cons x l => simp [cansB, hc]
      have hfl : Hid (floorR B shore = (minL ((cansB B).map (fAt shore)), maxL (((cansB B).map (fAt shore)).head?.getD 0) ((cansB B).map (fAt shore)), 0)) := Lib.hid (by simp [floorR, hes])
      have hval : B.valid = true := by
        cases hq : B.valid
        · rw [askE, hq] at hes; simp at hes
        · rfl
      have hV := VB.of_valid hval
      have hel : (cansB B).length ≤ 1000 := by
        have := preC0_len B (dep B.sounds []) (B.s0.fh - B.s0.fl + 1).toNat hV.sh1
        have := hV.sh0.near
        unfold cansB ext0
        omega
      clear hes hcs hval
      obtain ⟨cb, a', c', heq, hca, _⟩ := cans_of_row hCR hel
      obtain ⟨rfl, rfl⟩ : ca = a' ∧ cc = c' := by simpa using heq
      clear heq
      have hss : shore = 0 ∨ shore = 1 := by simp [inB] at hsh; omega
      clear hsh
      rcases hss with rfl | rfl
      · have hfat : ∀ k (h : k < (cansB B).length), ((cansB B).take (k + 1)).map (fun f => i64 (fAt 0 f)) = ((cansB B).take k).map (fun f => i64 (fAt 0 f)) ++ [i64 (cansB B)[k].1] := fun k h => by
          rw [List.take_succ_eq_append_getElem h, List.map_append]; rfl
        have hfat := Lib.hid hfat
        go_wp2_with fail
        go_loopw [25, 8] (fun i v wr => ∃ k : Nat, k ≤ (cansB B).length ∧ i = .int .i64 k ∧ wr.ownsRow w1.heap.size 3 1 v k (((cansB B).take k).map (fun f => i64 (fAt 0 f))) ∧ Below w1.heap.size w1 wr) (fun i _ _ => (cansB B).length - (intOf i).toNat)
        case atStart => exact ⟨0, Nat.zero_le _, rfl, World.ownsRow_nil _ _ _ _, Below.refl _ _⟩
        case round =>
          obtain ⟨k, hk, rfl, hrow, hbw⟩ := hrel
          have hwz := hbw.size
          by_cases hlt : k < (cansB B).length
          · have hca1 := hca.same (Same.of_below hbw)
            have hidx := idx91 (n := (cansB B).length) (c := cc) (k := k) wr (hca1.at_ (ne_nil_of_lt hlt)) hlt
            have hc1 := hca1.fst k hlt
            have hc2 := hca1.snd k hlt
            rw [Nat.zero_add] at hc1 hc2
            obtain ⟨i0, hi, hz0, hz1', hz2⟩ := info_parts info3
            have hnews := cell_one_after wr (.cells #[i64 (cansB B)[k].1, i64 (cansB B)[k].2] 99) (i64 (cansB B)[k].1) 3
            go_wp2_with (at_builtin; refine wpList_append_own _ rfl _ _ 40 rfl w1.heap.size 3 i0 (i64 0) 1 8 Tryd.underlying40 hi hz0 hz1' hz2 rfl (by decide) _ _ _ rfl ((hrow.alloc _).alloc _) ⟨wr.heap.size + 1, 0, none⟩ 1 1 [i64 (cansB B)[k].1] rfl rfl hnews (by simp [Value.oneCell']) (by unfold maxLen; omega) (by omega) (by simp; omega) ?_; intro v' w3 hown' hgrow hnil; rw [← hfat.out k hlt] at hown'; obtain ⟨g', cap', rfl⟩ := ownsRow_succ hown')
            have hbw3 : Below w1.heap.size w1 w3 := ((hbw.alloc hwz _).alloc (by simp; omega) _).grown hgrow (by simp; omega) (fun j e => (hrow.lt j e).1)
            go_roundw
            case rel => exact ⟨k + 1, by omega, by go_num, hown', hbw3⟩
            case measure => simp [intOf]; omega
          · have hke : k = (cansB B).length := by omega
            have hrow' : wr.ownsRow w1.heap.size 3 1 u8 ((cansB B).map (fAt 0)).length (((cansB B).map (fAt 0)).map i64) := by
              rw [hke, List.take_length] at hrow
              simpa [List.map_map, Function.comp_def] using hrow
            have hk' : ¬ (k : Int) < ((cansB B).length : Int) := by omega
            clear hke hrow
            have hel' : ((cansB B).map (fAt 0)).length ≤ 1000 := by simpa using hel
            have hne' : 0 < ((cansB B).map (fAt 0)).length := by simpa using hne
            obtain ⟨L, hL⟩ : ∃ L, (cansB B).map (fAt 0) = L := ⟨_, rfl⟩
            rw [hL] at hrow' hel' hne' hfl
            clear hL
            obtain ⟨b2, o2, a2, c2, rfl, hI, _⟩ := ints_of_row hrow' hel'
            have hz2 := (hbw.block _ hrl).trans hz1
            have hl2 := (Array.getElem?_eq_some_iff.1 hz2).1
            go_wp2_with (go_at_call 75; refine (ends_any wr.heap.size b2 o2 a2 c2 _ _ hI hne' (Nat.le_refl _)).mono ?_; rintro e w' ⟨rfl, hb3⟩; have hz3 := (hb3.block _ hl2).trans hz2; have hrc3 := cells_of hz3; have hrf3 := frozen_of hz3; have hrl3 := (Array.getElem?_eq_some_iff.1 hz3).1; have hb4 := hb1.trans ((hbw.trans (hb3.mono hwz)).mono hb1.size))
            refine bodyPost_ret (results_cell_tmp rfl _ _ (w.heap.size + 1) 24 #[i64 (minL L), i64 (maxL (L.head?.getD 0) L)] (0, 0) _ rfl ?_ Tryd.underlying24 rfl (by kernel_rfl)) rfl ?_
            · exact set_two1 (set_two0 hz3 _) _
            · exact ⟨by rw [hfl.out]; rfl, (hb4.setCell (p := ⟨w.heap.size + 1, 0, none⟩) (by show w.heap.size ≤ w.heap.size + 1; omega) _).setCell (p := ⟨w.heap.size + 1, 1, none⟩) (by show w.heap.size ≤ w.heap.size + 1; omega) _⟩
      · have hfat : ∀ k (h : k < (cansB B).length), ((cansB B).take (k + 1)).map (fun f => i64 (fAt 1 f)) = ((cansB B).take k).map (fun f => i64 (fAt 1 f)) ++ [i64 (cansB B)[k].2] := fun k h => by
          rw [List.take_succ_eq_append_getElem h, List.map_append]; rfl
        have hfat := Lib.hid hfat
        go_wp2_with fail
        go_loopw [25, 8] (fun i v wr => ∃ k : Nat, k ≤ (cansB B).length ∧ i = .int .i64 k ∧ wr.ownsRow w1.heap.size 3 1 v k (((cansB B).take k).map (fun f => i64 (fAt 1 f))) ∧ Below w1.heap.size w1 wr) (fun i _ _ => (cansB B).length - (intOf i).toNat)
        case atStart => exact ⟨0, Nat.zero_le _, rfl, World.ownsRow_nil _ _ _ _, Below.refl _ _⟩
        case round =>
          obtain ⟨k, hk, rfl, hrow, hbw⟩ := hrel
          have hwz := hbw.size
          by_cases hlt : k < (cansB B).length
          · have hca1 := hca.same (Same.of_below hbw)
            have hidx := idx91 (n := (cansB B).length) (c := cc) (k := k) wr (hca1.at_ (ne_nil_of_lt hlt)) hlt
            have hc1 := hca1.fst k hlt
            have hc2 := hca1.snd k hlt
            rw [Nat.zero_add] at hc1 hc2
            obtain ⟨i0, hi, hz0, hz1', hz2⟩ := info_parts info3
            have hnews := cell_one_after wr (.cells #[i64 (cansB B)[k].1, i64 (cansB B)[k].2] 99) (i64 (cansB B)[k].2) 3
            go_wp2_with (at_builtin; refine wpList_append_own _ rfl _ _ 40 rfl w1.heap.size 3 i0 (i64 0) 1 8 Tryd.underlying40 hi hz0 hz1' hz2 rfl (by decide) _ _ _ rfl ((hrow.alloc _).alloc _) ⟨wr.heap.size + 1, 0, none⟩ 1 1 [i64 (cansB B)[k].2] rfl rfl hnews (by simp [Value.oneCell']) (by unfold maxLen; omega) (by omega) (by simp; omega) ?_; intro v' w3 hown' hgrow hnil; rw [← hfat.out k hlt] at hown'; obtain ⟨g', cap', rfl⟩ := ownsRow_succ hown')
            have hbw3 : Below w1.heap.size w1 w3 := ((hbw.alloc hwz _).alloc (by simp; omega) _).grown hgrow (by simp; omega) (fun j e => (hrow.lt j e).1)
            go_roundw
            case rel => exact ⟨k + 1, by omega, by go_num, hown', hbw3⟩
            case measure => simp [intOf]; omega
          · have hke : k = (cansB B).length := by omega
            have hrow' : wr.ownsRow w1.heap.size 3 1 u8 ((cansB B).map (fAt 1)).length (((cansB B).map (fAt 1)).map i64) := by
              rw [hke, List.take_length] at hrow
              simpa [List.map_map, Function.comp_def] using hrow
            have hk' : ¬ (k : Int) < ((cansB B).length : Int) := by omega
            clear hke hrow
            have hel' : ((cansB B).map (fAt 1)).length ≤ 1000 := by simpa using hel
            have hne' : 0 < ((cansB B).map (fAt 1)).length := by simpa using hne
            obtain ⟨L, hL⟩ : ∃ L, (cansB B).map (fAt 1) = L := ⟨_, rfl⟩
            rw [hL] at hrow' hel' hne' hfl
            clear hL
            obtain ⟨b2, o2, a2, c2, rfl, hI, _⟩ := ints_of_row hrow' hel'
            have hz2 := (hbw.block _ hrl).trans hz1
            have hl2 := (Array.getElem?_eq_some_iff.1 hz2).1
            go_wp2_with (go_at_call 75; refine (ends_any wr.heap.size b2 o2 a2 c2 _ _ hI hne' (Nat.le_refl _)).mono ?_; rintro e w' ⟨rfl, hb3⟩; have hz3 := (hb3.block _ hl2).trans hz2; have hrc3 := cells_of hz3; have hrf3 := frozen_of hz3; have hrl3 := (Array.getElem?_eq_some_iff.1 hz3).1; have hb4 := hb1.trans ((hbw.trans (hb3.mono hwz)).mono hb1.size))
            refine bodyPost_ret (results_cell_tmp rfl _ _ (w.heap.size + 1) 24 #[i64 (minL L), i64 (maxL (L.head?.getD 0) L)] (0, 0) _ rfl ?_ Tryd.underlying24 rfl (by kernel_rfl)) rfl ?_
            · exact set_two1 (set_two0 hz3 _) _
            · exact ⟨by rw [hfl.out]; rfl, (hb4.setCell (p := ⟨w.heap.size + 1, 0, none⟩) (by show w.heap.size ≤ w.heap.size + 1; omega) _).setCell (p := ⟨w.heap.size + 1, 1, none⟩) (by show w.heap.size ≤ w.heap.size + 1; omega) _⟩
    · have hfl : Hid (floorR B shore = (0, 0, err)) := Lib.hid (by simp [floorR, hes, he])
      have hes' := Lib.hid hes
      clear hes
      have he' := Lib.hid he
      have hq : (err != 0) = true := by simp [he]
      clear he
      go_wp2_with fail
      refine bodyPost_ret (results_cell_tmp rfl _ _ (w.heap.size + 1) 24 #[i64 0, i64 0] (0, 0) _ rfl ?_ Tryd.underlying24 rfl (by kernel_rfl)) rfl ?_
      · exact set_two1 (set_two0 hz1 _) _
      · exact ⟨by rw [hfl.out]; rfl, (hb1.setCell (p := ⟨w.heap.size + 1, 0, none⟩) (by show w.heap.size ≤ w.heap.size + 1; omega) _).setCell (p := ⟨w.heap.size + 1, 1, none⟩) (by show w.heap.size ≤ w.heap.size + 1; omega) _⟩
end Go.Proofs.YtkbmpkdflgimmaaDoor
