/- The contract of Most. -/
import Derived.Test.YtkbmpkdflgimmaaDoorRGuard
namespace Go.Proofs.YtkbmpkdflgimmaaDoor
open Go.RowKit Go.Shelf

def MostPost (B : Book) (s hr : Int) (w : World) (e : Ending) (w' : World) : Prop := e = .returned (.tuple #[i64 (mostR B s hr).1, i64 (mostR B s hr).2]) ∧ Below w.heap.size w w'
def rdMost (i : Nat) : List Nat := match i with
  | 0 => [13] | 1 => [14] | 2 => [15] | 3 => [16] | 4 => [17] | 5 => [18] | 6 => [19] | 7 => [20] | 8 => [21] | 9 => [12] | 10 => [22] | 11 => [23] | 12 => [8] | 13 => [8] | 14 => [9] | _ => []
def pureMost (i : Nat) : Bool := match i with
  | 2 => false | 6 => false | 8 => false | 12 => false | 13 => false | _ => true
def gMost (z : Nat) (B : Book) (ta : Option Addr) (tc : Nat) (sa : Option Addr) (sc : Nat) (s hr : Int) (i : Nat) (vs : List Value) (W : World) : Prop := match i with
  | 0 => vs = [.agg (bookCells B ta tc sa sc)]
  | 1 => vs = [i64 s]
  | 2 => vs = [.bool (inB s 0 1)]
  | 3 => vs = [.bool (inB s 0 1)]
  | 4 => (inB s 0 1) = true → vs = [.agg (bookCells B ta tc sa sc)]
  | 5 => (inB s 0 1) = true → vs = [i64 hr]
  | 6 => (inB s 0 1) = true → vs = [.bool (hourB B hr)]
  | 7 => vs = [.bool ((inB s 0 1) && (hourB B hr))]
  | 8 => AskTup z B ta tc sa sc (askE B ((inB s 0 1) && (hourB B hr))) vs W
  | 9 => AskTup z B ta tc sa sc (askE B ((inB s 0 1) && (hourB B hr))) vs W
  | 10 => AskAgg z B ta tc sa sc (askE B ((inB s 0 1) && (hourB B hr))) vs W
  | 11 => vs = [i64 (askE B ((inB s 0 1) && (hourB B hr)))]
  | 12 => AskBox z vs W
  | 13 => AskVar z B ta tc sa sc (askE B ((inB s 0 1) && (hourB B hr))) vs W
  | 14 => vs = [i64 (askE B ((inB s 0 1) && (hourB B hr)))]
  | _ => True
set_option maxRecDepth 100000 in
set_option maxHeartbeats 2000000 in
theorem Most_any (nA : Nat) (B : Book) (tb tq : Nat) (ta : Option Addr) (tc : Nat) (sb sq : Nat) (sa : Option Addr) (sc : Nat) (s hr : Int) (w : World) (hn : nA ≤ w.heap.size) (hE : Env nA w B tb tq ta sb sq sa) :
    Calls Tryd.prog 33 #[bookVal B ta tc sa sc, i64 s, i64 hr] w (MostPost B s hr w) := by
  have hb0 : Below w.heap.size w (w.alloc (.cells (bookCells B ta tc sa sc) 30)) := (Below.refl _ w).alloc (Nat.le_refl _) _
  have hE0 := hE.below hn hb0
  have hx0 : (w.alloc (.cells (bookCells B ta tc sa sc) 30)).heap[w.heap.size]? = some (.cells (bookCells B ta tc sa sc) 30 (0, 0)) := heap_alloc_new w _
  go_enter Tryd.func33, Tryd.ntmps33
  go_wp2_with fail
  refine rg_region rdMost pureMost (gMost (w.heap.size + 1) B ta tc sa sc s hr) (RA (w.heap.size + 1)) (by kernel_rfl) (by kernel_rfl) (fun n => RA.drawn _ _ n) (RA.refl _) (fun _ _ _ => RA.trans) ?_ ?_ ?_
  · intro i hi vs w1 w2 hG hR
    match i, hi, hG with
    | 0, _, hG => exact hG
    | 1, _, hG => exact hG
    | 2, _, hG => exact hG
    | 3, _, hG => exact hG
    | 4, _, hG => exact hG
    | 5, _, hG => exact hG
    | 6, _, hG => exact hG
    | 7, _, hG => exact hG
    | 8, _, hG => exact AskTup.ra hG hR
    | 9, _, hG => exact AskTup.ra hG hR
    | 10, _, hG => exact AskAgg.ra hG hR
    | 11, _, hG => exact hG
    | 12, _, hG => exact AskBox.ra hG hR
    | 13, hi, _ => exact absurd hi (Bool.eq_false_iff.1 (by kernel_rfl))
    | 14, _, hG => exact hG
    | _ + 15, _, _ => trivial
  · intro i o ho a w1 hR hF hD
    have sz : a.tmps.size = 40 := hF.size
    have sB : a.eval (.tmp 3) = .pointer (some ⟨w.heap.size, 0, none⟩) := hF.slot 3 (by kernel_rfl)
    have s1 : a.eval (.tmp 1) = i64 s := hF.slot 1 (by kernel_rfl)
    have s2 : a.eval (.tmp 2) = i64 hr := hF.slot 2 (by kernel_rfl)
    have hz : w.heap.size + 1 ≤ w1.heap.size := by have := hR.size; simpa using this
    have hx := (hR.old w.heap.size (by omega)).trans hx0
    match i, ho, hD with
    | 0, ho, hD =>
      cases ho
      refine rgw_val (wanted_none rfl) (.agg (bookCells B ta tc sa sc)) (ex_load_row 30 _ rfl _ sB 30 _ (0, 0) _ hx Tryd.underlying30 rfl (by rw [size30]; rfl)) (RA.refl _ _) ?_
      exact congrArg (fun v => [v]) (slotOf_same a 13 _ (by omega))
    | 1, ho, hD =>
      cases ho
      refine rgw_val (wanted_none rfl) (i64 s) (ex_move _ rfl _ s1) (RA.refl _ _) ?_
      exact congrArg (fun v => [v]) (slotOf_same a 14 _ (by omega))
    | 2, ho, hD =>
      cases ho
      have e1 := slot_tmps (List.cons.inj (hD 1 (by decide))).1
      refine rgw_call (wanted_none rfl) 76 #[i64 s] (by simp [go_sem, e1]) rfl ?_
      refine (isShore_any s w1).mono ?_
      rintro e w2 ⟨rfl, rfl⟩
      exact ⟨_, rfl, RA.refl _ _, congrArg (fun v => [v]) (slotOf_same a 15 _ (by omega))⟩
    | 3, ho, hD =>
      cases ho
      have e1 : a.eval (.tmp 15) = .bool (inB s 0 1) := (List.cons.inj (hD 2 (by decide))).1
      refine rgw_val (wanted_none rfl) (.bool (inB s 0 1)) (ex_move _ rfl _ e1) (RA.refl _ _) ?_
      exact congrArg (fun v => [v]) (slotOf_same a 16 _ (by omega))
    | 4, ho, hD =>
      cases ho
      have dj : slotOf a 16 = .bool (inB s 0 1) := (List.cons.inj (hD 3 (by decide))).1
      cases hc : inB s 0 1
      · refine rgw_skip (by rw [wanted_of (d := 16) rfl rfl dj, hc]; rfl) ?_
        intro h; rw [hc] at h; cases h
      · have hcw := hc
        refine rgw_val (by rw [wanted_of (d := 16) rfl rfl dj, hc]; rfl) (.agg (bookCells B ta tc sa sc)) (ex_load_row 30 _ rfl _ sB 30 _ (0, 0) _ hx Tryd.underlying30 rfl (by rw [size30]; rfl)) (RA.refl _ _) ?_
        exact fun _ => congrArg (fun v => [v]) (slotOf_same a 17 _ (by omega))
    | 5, ho, hD =>
      cases ho
      have dj : slotOf a 16 = .bool (inB s 0 1) := (List.cons.inj (hD 3 (by decide))).1
      cases hc : inB s 0 1
      · refine rgw_skip (by rw [wanted_of (d := 16) rfl rfl dj, hc]; rfl) ?_
        intro h; rw [hc] at h; cases h
      · have hcw := hc
        refine rgw_val (by rw [wanted_of (d := 16) rfl rfl dj, hc]; rfl) (i64 hr) (ex_move _ rfl _ s2) (RA.refl _ _) ?_
        exact fun _ => congrArg (fun v => [v]) (slotOf_same a 18 _ (by omega))
    | 6, ho, hD =>
      cases ho
      have dj : slotOf a 16 = .bool (inB s 0 1) := (List.cons.inj (hD 3 (by decide))).1
      cases hc : inB s 0 1
      · refine rgw_skip (by rw [wanted_of (d := 16) rfl rfl dj, hc]; rfl) ?_
        intro h; rw [hc] at h; cases h
      · have hcw := hc
        have e0 := slot_tmps (List.cons.inj (hD 4 (by decide) hcw)).1
        have e1 := slot_tmps (List.cons.inj (hD 5 (by decide) hcw)).1
        refine rgw_call (by rw [wanted_of (d := 16) rfl rfl dj, hc]; rfl) 73 #[bookVal B ta tc sa sc, i64 hr] (by simp [go_sem, e0, e1]) rfl ?_
        refine (isHour_any B ta tc sa sc hr w1 hE.tides.len).mono ?_
        rintro e w2 ⟨rfl, hb⟩
        exact ⟨_, rfl, RA.of_below hz hb, fun _ => congrArg (fun v => [v]) (slotOf_same a 19 _ (by omega))⟩
    | 7, ho, hD =>
      cases ho
      have dj : a.eval (.tmp 16) = .bool (inB s 0 1) := (List.cons.inj (hD 3 (by decide))).1
      have d6 : (inB s 0 1) = true → a.eval (.tmp 19) = .bool (hourB B hr) := fun h => (List.cons.inj (hD 6 (by decide) h)).1
      refine rgw_val (wanted_none rfl) (.bool ((inB s 0 1) && (hourB B hr))) ?_ (RA.refl _ _) (congrArg (fun v => [v]) (slotOf_same a 20 _ (by omega)))
      rw [ex_pick _ _ _ rfl _ dj]
      cases hc : inB s 0 1
      · rfl
      · rw [if_pos rfl, d6 hc, Bool.true_and]
    | 8, ho, hD =>
      cases ho
      have e0 := slot_tmps (List.cons.inj (hD 0 (by decide))).1
      have e1 := slot_tmps (List.cons.inj (hD 7 (by decide))).1
      have hE1 := hE0.same ⟨hR.size, fun k hk => hR.old k (by omega)⟩
      refine rgw_call (wanted_none rfl) 72 #[bookVal B ta tc sa sc, .bool ((inB s 0 1) && (hourB B hr))] (by simp [go_sem, e0, e1]) rfl ?_
      refine (asked_any nA B tb tq ta tc sb sq sa sc ((inB s 0 1) && (hourB B hr)) w1 (by omega) hE1.gl hE1.tides hE1.sounds).mono ?_
      rintro e w2 ⟨cs, rfl, hb, hcs⟩
      exact ⟨_, rfl, RA.of_below hz hb, cs, congrArg (fun v => [v]) (slotOf_same a 21 _ (by omega)), hcs.down hz⟩
    | 9, ho, hD =>
      cases ho
      obtain ⟨cs, d3, hcs⟩ := hD 8 (by decide)
      have e3 : a.eval (.tmp 21) = _ := (List.cons.inj d3).1
      refine rgw_val (wanted_none rfl) _ (ex_move _ rfl _ e3) (RA.refl _ _) ?_
      exact ⟨cs, congrArg (fun v => [v]) (slotOf_same a 12 _ (by omega)), hcs⟩
    | 10, ho, hD =>
      cases ho
      obtain ⟨cs, d4, hcs⟩ := hD 9 (by decide)
      have e4 : a.eval (.tmp 12) = _ := (List.cons.inj d4).1
      refine rgw_val (wanted_none rfl) (.agg cs) (ex_extract _ _ rfl _ _ e4 rfl) (RA.refl _ _) ?_
      exact ⟨cs, congrArg (fun v => [v]) (slotOf_same a 22 _ (by omega)), hcs⟩
    | 11, ho, hD =>
      cases ho
      obtain ⟨cs, d4, hcs⟩ := hD 9 (by decide)
      have e4 : a.eval (.tmp 12) = _ := (List.cons.inj d4).1
      refine rgw_val (wanted_none rfl) (i64 (askE B ((inB s 0 1) && (hourB B hr)))) (ex_extract _ _ rfl _ _ e4 rfl) (RA.refl _ _) ?_
      exact congrArg (fun v => [v]) (slotOf_same a 23 _ (by omega))
    | 12, ho, hD =>
      cases ho
      refine rg_wp rfl rfl ?_
      refine wp_of_run (v := .pointer (some ⟨w1.heap.size, 0, none⟩)) (w' := w1.alloc (.cells zero93 93)) (by simp [go_sem]) ?_
      exact ⟨_, rfl, RA.of_below hz ((Below.refl _ _).alloc (Nat.le_refl _) _), _, _, congrArg (fun v => [v]) (slotOf_same a 8 _ (by omega)), hz, heap_alloc_new _ _, rfl⟩
    | 13, ho, hD =>
      cases ho
      obtain ⟨cs, d5, hcs⟩ := hD 10 (by decide)
      obtain ⟨b, c, d7, hzb, hb, hc⟩ := hD 12 (by decide)
      have e5 : a.eval (.tmp 22) = _ := (List.cons.inj d5).1
      have e7 : a.eval (.tmp 8) = _ := (List.cons.inj d7).1
      refine rg_wp rfl rfl ?_
      refine wp_store_row 93 _ _ rfl b cs e7 e5 93 c hb (by rw [size93, hcs.size]) (by rw [hc, hcs.size]) hcs.one ?_
      have hra := RA.store hzb hb (by rw [hc, hcs.size] : cs.size = c.size)
      exact ⟨undef, rfl, hra, b, cs, d7, hzb, setRow_heap _ _ _ _ _ _ hb, hcs.ra hra⟩
    | 14, ho, hD =>
      cases ho
      have d6 : a.eval (.tmp 23) = i64 (askE B ((inB s 0 1) && (hourB B hr))) := (List.cons.inj (hD 11 (by decide))).1
      refine rgw_val (wanted_none rfl) _ (ex_assign _ rfl _ d6) (RA.refl _ _) ?_
      exact congrArg (fun v => [v]) (slotOf_same a 9 _ (by omega))
    | _ + 15, ho, _ => cases ho
  · intro a w1 hR hF hA
    have f1 : slotOf a 1 = i64 s := hF.slot 1 (by kernel_rfl)
    have f2 : slotOf a 2 = i64 hr := hF.slot 2 (by kernel_rfl)
    have f3 : slotOf a 3 = .pointer (some ⟨w.heap.size, 0, none⟩) := hF.slot 3 (by kernel_rfl)
    have f6 : slotOf a 6 = i64 0 := hF.slot 6 (by kernel_rfl)
    have f7 : slotOf a 7 = i64 0 := hF.slot 7 (by kernel_rfl)
    obtain ⟨b, cs, d8, hzb, hb, hcs⟩ := hA 13 (by decide)
    have f8 : slotOf a 8 = .pointer (some ⟨b, 0, none⟩) := (List.cons.inj d8).1
    have f9 : slotOf a 9 = i64 (askE B ((inB s 0 1) && (hourB B hr))) := (List.cons.inj (hA 14 (by decide))).1
    rw [act_eta a 40 hF.size hF.defers]
    simp only [show List.range 40 = [0, 1, 2, 3, 4, 5, 6, 7, 8, 9, 10, 11, 12, 13, 14, 15, 16, 17, 18, 19, 20, 21, 22, 23, 24, 25, 26, 27, 28, 29, 30, 31, 32, 33, 34, 35, 36, 37, 38, 39] from rfl, List.map_cons, List.map_nil, f1, f2, f3, f6, f7, f8, f9]
    clear hA hF d8 f1 f2 f3 f6 f7 f8 f9
    have hb1 : Below w.heap.size w w1 := hb0.trans (hR.below.mono (by omega))
    have hx1 := (hR.old w.heap.size (by omega)).trans hx0
    have hxc := cells_of hx1
    have hxl := (Array.getElem?_eq_some_iff.1 hx1).1
    have hT1 : SpansAt w1.heap.size w1 tb tq ta B.tides := (hE0.same ⟨hR.size, fun k hk => hR.old k (by omega)⟩).tides.up (by omega)
    by_cases he : askE B ((inB s 0 1) && (hourB B hr)) = 0
    · obtain ⟨his, m, ca, cc, cb, hgd⟩ := Good.of he hcs hb
      have hq : mostR B s hr = mostO ((List.range 201).find? fun (n : Nat) => sureB B s hr (200 - (n : Int))) := by unfold mostR askM; rw [if_pos he]
      have hq := Lib.hid hq
      rw [he]
      clear he hcs
      simp only [Bool.and_eq_true, hourB, inB_iff] at his
      obtain ⟨⟨hs1, hs2⟩, hh1, hh2⟩ := his
      have hs : s = 0 ∨ s = 1 := by omega
      obtain ⟨h, rfl⟩ : ∃ h : Nat, hr = h := ⟨hr.toNat, by omega⟩
      have hh : h < B.tides.length := by omega
      have hs := Lib.hid hs
      go_wp2_with fail
      go_loopw [27] (fun i wr => ∃ k : Nat, k ≤ 201 ∧ i = .int .i64 k ∧ Below w1.heap.size w1 wr ∧ Hid (∀ j, j < k → sureB B s h (200 - (j : Int)) = false)) (fun i _ => 201 - (intOf i).toNat)
      case atStart => exact ⟨0, Nat.zero_le _, rfl, Below.refl _ _, fun j hj => by omega⟩
      case round =>
        obtain ⟨k, hk, rfl, hbw, hno⟩ := hrel
        obtain ⟨hbx, _, _⟩ := hgd.below hbw
        by_cases hlt : k < 201
        · have hlt' : (k : Int) < 201 := by omega
          cases hsv : sureB B s h (200 - (k : Int))
          · have hsv := Lib.hid hsv
            go_wp2_with (first | (refine ld93 rfl _ rfl _ _ rfl hbx rfl ?_) | (go_at_call 79; refine (must_c hgd hT1 h hh s (200 - (k : Int)) hs.out (by omega) (by omega) wr hbw).mono ?_; rintro e w2 ⟨rfl, hb2⟩; rw [hsv.out]; have hbw2 := hbw.trans (hb2.mono hbw.size)))
            go_roundw
            case rel => exact ⟨k + 1, by omega, by go_num, hbw2, fun j hj => by
              rcases Nat.lt_or_ge j k with h' | h'
              · exact hno.out j h'
              · obtain rfl : j = k := by omega
                exact hsv.out⟩
            case measure => simp [intOf]; omega
          · have hsv := Lib.hid hsv
            have hfin : Hid (mostR B s h = (200 - (k : Int), 0)) := by
              show _ = _
              rw [hq.out, show (List.range 201).find? (fun (n : Nat) => sureB B s h (200 - (n : Int))) = some k from List.find?_range_eq_some.2 ⟨hsv.out, List.mem_range.2 hlt, fun j hj => by simp [hno.out j hj]⟩]; rfl
            go_wp2_with (first | (refine ld93 rfl _ rfl _ _ rfl hbx rfl ?_) | (go_at_call 79; refine (must_c hgd hT1 h hh s (200 - (k : Int)) hs.out (by omega) (by omega) wr hbw).mono ?_; rintro e w2 ⟨rfl, hb2⟩; rw [hsv.out]; have hbw2 := hbw.trans (hb2.mono hbw.size)))
            refine bodyPost_ret (results_tmp2 rfl _ _) rfl ?_
            exact ⟨by rw [hfin.out]; rfl, hb1.trans (hbw2.mono hb1.size)⟩
        · have hlt' : ¬ (k : Int) < 201 := by omega
          have hfin : Hid (mostR B s h = (0, 4)) := by
            show _ = _
            rw [hq.out, show (List.range 201).find? (fun (n : Nat) => sureB B s h (200 - (n : Int))) = none from List.find?_eq_none.2 (fun j hj => by rw [hno.out j (by have := List.mem_range.1 hj; omega)]; decide)]; rfl
          go_wp2_with fail
          refine bodyPost_ret (results_tmp2 rfl _ _) rfl ?_
          exact ⟨by rw [hfin.out]; rfl, hb1.trans (hbw.mono hb1.size)⟩
    · have hfl : Hid (mostR B s hr = (0, askE B ((inB s 0 1) && (hourB B hr)))) := Lib.hid (by unfold mostR askM; rw [if_neg he])
      have hq : (askE B ((inB s 0 1) && (hourB B hr)) != 0) = true := by simp [he]
      clear he
      generalize askE B ((inB s 0 1) && (hourB B hr)) = err at *
      go_wp2_with fail
      refine bodyPost_ret (results_tmp2 rfl _ _) rfl ?_
      exact ⟨by rw [hfl.out]; rfl, hb1⟩
end Go.Proofs.YtkbmpkdflgimmaaDoor
