/- Most, First, LandsR, Both, Height in one text. (Printed by merge.py.) -/
import Derived.Test.YtkbmpkdflgimmaaDoorS4
import Derived.Outline
import Derived.Maps.OwnIn
/- The contract of Most. -/
namespace Go.Proofs.YtkbmpkdflgimmaaDoor
open Go.RowKit Go.Shelf

def MostPost (B : Book) (s hr : Int) (w : World) (e : Ending) (w' : World) : Prop := e = .returned (.tuple #[i64 (mostR B s hr).1, i64 (mostR B s hr).2]) ∧ Below w.heap.size w w'
def rdMost (i : Nat) : List Nat := match i with
  | 0 => [13] | 1 => [14] | 2 => [15] | 3 => [16] | 4 => [17] | 5 => [18] | 6 => [19] | 7 => [20] | 8 => [21] | 9 => [12] | 10 => [22] | 11 => [23] | 12 => [8] | 13 => [8] | 14 => [9] | _ => []
def pureMost (i : Nat) : Bool := match i with
  | 2 => false | 6 => false | 8 => false | 12 => false | 13 => false | _ => true
def gMost (z : Nat) (B : Book) (ta : Option Addr) (tc : Nat) (sa : Option Addr) (sc : Nat) (s hr : Int) (i : Nat) (vs : List Value) (W : World) : Prop := match i with
  | 0 => vs = [.agg (bookCells B ta tc sa sc)]
  | 1 => vs = [i64 s]
  | 2 => vs = [.bool (inB s 0 1)]
  | 3 => vs = [.bool (inB s 0 1)]
  | 4 => (inB s 0 1) = true → vs = [.agg (bookCells B ta tc sa sc)]
  | 5 => (inB s 0 1) = true → vs = [i64 hr]
  | 6 => (inB s 0 1) = true → vs = [.bool (hourB B hr)]
  | 7 => vs = [.bool ((inB s 0 1) && (hourB B hr))]
  | 8 => AskTup z B ta tc sa sc (askE B ((inB s 0 1) && (hourB B hr))) vs W
  | 9 => AskTup z B ta tc sa sc (askE B ((inB s 0 1) && (hourB B hr))) vs W
  | 10 => AskAgg z B ta tc sa sc (askE B ((inB s 0 1) && (hourB B hr))) vs W
  | 11 => vs = [i64 (askE B ((inB s 0 1) && (hourB B hr)))]
  | 12 => AskBox z vs W
  | 13 => AskVar z B ta tc sa sc (askE B ((inB s 0 1) && (hourB B hr))) vs W
  | 14 => vs = [i64 (askE B ((inB s 0 1) && (hourB B hr)))]
  | _ => True
set_option maxRecDepth 100000 in
set_option maxHeartbeats 2000000 in
theorem Most_any (nA : Nat) (B : Book) (tb tq : Nat) (ta : Option Addr) (tc : Nat) (sb sq : Nat) (sa : Option Addr) (sc : Nat) (s hr : Int) (w : World) (hn : nA ≤ w.heap.size) (hE : Env nA w B tb tq ta sb sq sa) :
    Calls Tryd.prog 33 #[bookVal B ta tc sa sc, i64 s, i64 hr] w (MostPost B s hr w) := by
  have hb0 : Below w.heap.size w (w.alloc (.cells (bookCells B ta tc sa sc) 30)) := (Below.refl _ w).alloc (Nat.le_refl _) _
  have hE0 := hE.below hn hb0
  have hx0 : (w.alloc (.cells (bookCells B ta tc sa sc) 30)).heap[w.heap.size]? = some (.cells (bookCells B ta tc sa sc) 30 (0, 0)) := heap_alloc_new w _
  go_enter Tryd.func33, Tryd.ntmps33
  go_wp2_with fail
  refine rg_region rdMost pureMost (gMost (w.heap.size + 1) B ta tc sa sc s hr) (RA (w.heap.size + 1)) (by kernel_rfl) (by kernel_rfl) (fun n => RA.drawn _ _ n) (RA.refl _) (fun _ _ _ => RA.trans) ?_ ?_ ?_
  · intro i hi vs w1 w2 hG hR
    match i, hi, hG with
    | 0, _, hG => exact hG
    | 1, _, hG => exact hG
    | 2, _, hG => exact hG
    | 3, _, hG => exact hG
    | 4, _, hG => exact hG
    | 5, _, hG => exact hG
    | 6, _, hG => exact hG
    | 7, _, hG => exact hG
    | 8, _, hG => exact AskTup.ra hG hR
    | 9, _, hG => exact AskTup.ra hG hR
    | 10, _, hG => exact AskAgg.ra hG hR
    | 11, _, hG => exact hG
    | 12, _, hG => exact AskBox.ra hG hR
    | 13, hi, _ => exact absurd hi (Bool.eq_false_iff.1 (by kernel_rfl))
    | 14, _, hG => exact hG
    | _ + 15, _, _ => trivial
  · intro i o ho a w1 hR hF hD
    have sz : a.tmps.size = 40 := hF.size
    have sB : a.eval (.tmp 3) = .pointer (some ⟨w.heap.size, 0, none⟩) := hF.slot 3 (by kernel_rfl)
    have s1 : a.eval (.tmp 1) = i64 s := hF.slot 1 (by kernel_rfl)
    have s2 : a.eval (.tmp 2) = i64 hr := hF.slot 2 (by kernel_rfl)
    have hz : w.heap.size + 1 ≤ w1.heap.size := by have := hR.size; simpa using this
    have hx := (hR.old w.heap.size (by omega)).trans hx0
    match i, ho, hD with
    | 0, ho, hD =>
      cases ho
      refine rgw_val (wanted_none rfl) (.agg (bookCells B ta tc sa sc)) (ex_load_row 30 _ rfl _ sB 30 _ (0, 0) _ hx Tryd.underlying30 rfl (by rw [size30]; rfl)) (RA.refl _ _) ?_
      exact congrArg (fun v => [v]) (slotOf_same a 13 _ (by omega))
    | 1, ho, hD =>
      cases ho
      refine rgw_val (wanted_none rfl) (i64 s) (ex_move _ rfl _ s1) (RA.refl _ _) ?_
      exact congrArg (fun v => [v]) (slotOf_same a 14 _ (by omega))
    | 2, ho, hD =>
      cases ho
      have e1 := slot_tmps (List.cons.inj (hD 1 (by decide))).1
      refine rgw_call (wanted_none rfl) 76 #[i64 s] (by simp [go_sem, e1]) rfl ?_
      refine (isShore_any s w1).mono ?_
      rintro e w2 ⟨rfl, rfl⟩
      exact ⟨_, rfl, RA.refl _ _, congrArg (fun v => [v]) (slotOf_same a 15 _ (by omega))⟩
    | 3, ho, hD =>
      cases ho
      have e1 : a.eval (.tmp 15) = .bool (inB s 0 1) := (List.cons.inj (hD 2 (by decide))).1
      refine rgw_val (wanted_none rfl) (.bool (inB s 0 1)) (ex_move _ rfl _ e1) (RA.refl _ _) ?_
      exact congrArg (fun v => [v]) (slotOf_same a 16 _ (by omega))
    | 4, ho, hD =>
      cases ho
      have dj : slotOf a 16 = .bool (inB s 0 1) := (List.cons.inj (hD 3 (by decide))).1
      cases hc : inB s 0 1
      · refine rgw_skip (by rw [wanted_of (d := 16) rfl rfl dj, hc]; rfl) ?_
        intro h; rw [hc] at h; cases h
      · have hcw := hc
        refine rgw_val (by rw [wanted_of (d := 16) rfl rfl dj, hc]; rfl) (.agg (bookCells B ta tc sa sc)) (ex_load_row 30 _ rfl _ sB 30 _ (0, 0) _ hx Tryd.underlying30 rfl (by rw [size30]; rfl)) (RA.refl _ _) ?_
        exact fun _ => congrArg (fun v => [v]) (slotOf_same a 17 _ (by omega))
    | 5, ho, hD =>
      cases ho
      have dj : slotOf a 16 = .bool (inB s 0 1) := (List.cons.inj (hD 3 (by decide))).1
      cases hc : inB s 0 1
      · refine rgw_skip (by rw [wanted_of (d := 16) rfl rfl dj, hc]; rfl) ?_
        intro h; rw [hc] at h; cases h
      · have hcw := hc
        refine rgw_val (by rw [wanted_of (d := 16) rfl rfl dj, hc]; rfl) (i64 hr) (ex_move _ rfl _ s2) (RA.refl _ _) ?_
        exact fun _ => congrArg (fun v => [v]) (slotOf_same a 18 _ (by omega))
    | 6, ho, hD =>
      cases ho
      have dj : slotOf a 16 = .bool (inB s 0 1) := (List.cons.inj (hD 3 (by decide))).1
      cases hc : inB s 0 1
      · refine rgw_skip (by rw [wanted_of (d := 16) rfl rfl dj, hc]; rfl) ?_
        intro h; rw [hc] at h; cases h
      · have hcw := hc
        have e0 := slot_tmps (List.cons.inj (hD 4 (by decide) hcw)).1
        have e1 := slot_tmps (List.cons.inj (hD 5 (by decide) hcw)).1
        refine rgw_call (by rw [wanted_of (d := 16) rfl rfl dj, hc]; rfl) 73 #[bookVal B ta tc sa sc, i64 hr] (by simp [go_sem, e0, e1]) rfl ?_
        refine (isHour_any B ta tc sa sc hr w1 hE.tides.len).mono ?_
        rintro e w2 ⟨rfl, hb⟩
        exact ⟨_, rfl, RA.of_below hz hb, fun _ => congrArg (fun v => [v]) (slotOf_same a 19 _ (by omega))⟩
    | 7, ho, hD =>
      cases ho
      have dj : a.eval (.tmp 16) = .bool (inB s 0 1) := (List.cons.inj (hD 3 (by decide))).1
      have d6 : (inB s 0 1) = true → a.eval (.tmp 19) = .bool (hourB B hr) := fun h => (List.cons.inj (hD 6 (by decide) h)).1
      refine rgw_val (wanted_none rfl) (.bool ((inB s 0 1) && (hourB B hr))) ?_ (RA.refl _ _) (congrArg (fun v => [v]) (slotOf_same a 20 _ (by omega)))
      rw [ex_pick _ _ _ rfl _ dj]
      cases hc : inB s 0 1
      · rfl
      · rw [if_pos rfl, d6 hc, Bool.true_and]
    | 8, ho, hD =>
      cases ho
      have e0 := slot_tmps (List.cons.inj (hD 0 (by decide))).1
      have e1 := slot_tmps (List.cons.inj (hD 7 (by decide))).1
      have hE1 := hE0.same ⟨hR.size, fun k hk => hR.old k (by omega)⟩
      refine rgw_call (wanted_none rfl) 72 #[bookVal B ta tc sa sc, .bool ((inB s 0 1) && (hourB B hr))] (by simp [go_sem, e0, e1]) rfl ?_
      refine (asked_any nA B tb tq ta tc sb sq sa sc ((inB s 0 1) && (hourB B hr)) w1 (by omega) hE1.gl hE1.tides hE1.sounds).mono ?_
      rintro e w2 ⟨cs, rfl, hb, hcs⟩
      exact ⟨_, rfl, RA.of_below hz hb, cs, congrArg (fun v => [v]) (slotOf_same a 21 _ (by omega)), hcs.down hz⟩
    | 9, ho, hD =>
      cases ho
      obtain ⟨cs, d3, hcs⟩ := hD 8 (by decide)
      have e3 : a.eval (.tmp 21) = _ := (List.cons.inj d3).1
      refine rgw_val (wanted_none rfl) _ (ex_move _ rfl _ e3) (RA.refl _ _) ?_
      exact ⟨cs, congrArg (fun v => [v]) (slotOf_same a 12 _ (by omega)), hcs⟩
    | 10, ho, hD =>
      cases ho
      obtain ⟨cs, d4, hcs⟩ := hD 9 (by decide)
      have e4 : a.eval (.tmp 12) = _ := (List.cons.inj d4).1
      refine rgw_val (wanted_none rfl) (.agg cs) (ex_extract _ _ rfl _ _ e4 rfl) (RA.refl _ _) ?_
      exact ⟨cs, congrArg (fun v => [v]) (slotOf_same a 22 _ (by omega)), hcs⟩
    | 11, ho, hD =>
      cases ho
      obtain ⟨cs, d4, hcs⟩ := hD 9 (by decide)
      have e4 : a.eval (.tmp 12) = _ := (List.cons.inj d4).1
      refine rgw_val (wanted_none rfl) (i64 (askE B ((inB s 0 1) && (hourB B hr)))) (ex_extract _ _ rfl _ _ e4 rfl) (RA.refl _ _) ?_
      exact congrArg (fun v => [v]) (slotOf_same a 23 _ (by omega))
    | 12, ho, hD =>
      cases ho
      refine rg_wp rfl rfl ?_
      refine wp_of_run (v := .pointer (some ⟨w1.heap.size, 0, none⟩)) (w' := w1.alloc (.cells zero93 93)) (by simp [go_sem]) ?_
      exact ⟨_, rfl, RA.of_below hz ((Below.refl _ _).alloc (Nat.le_refl _) _), _, _, congrArg (fun v => [v]) (slotOf_same a 8 _ (by omega)), hz, heap_alloc_new _ _, rfl⟩
    | 13, ho, hD =>
      cases ho
      obtain ⟨cs, d5, hcs⟩ := hD 10 (by decide)
      obtain ⟨b, c, d7, hzb, hb, hc⟩ := hD 12 (by decide)
      have e5 : a.eval (.tmp 22) = _ := (List.cons.inj d5).1
      have e7 : a.eval (.tmp 8) = _ := (List.cons.inj d7).1
      refine rg_wp rfl rfl ?_
      refine wp_store_row 93 _ _ rfl b cs e7 e5 93 c hb (by rw [size93, hcs.size]) (by rw [hc, hcs.size]) hcs.one ?_
      have hra := RA.store hzb hb (by rw [hc, hcs.size] : cs.size = c.size)
      exact ⟨undef, rfl, hra, b, cs, d7, hzb, setRow_heap _ _ _ _ _ _ hb, hcs.ra hra⟩
    | 14, ho, hD =>
      cases ho
      have d6 : a.eval (.tmp 23) = i64 (askE B ((inB s 0 1) && (hourB B hr))) := (List.cons.inj (hD 11 (by decide))).1
      refine rgw_val (wanted_none rfl) _ (ex_assign _ rfl _ d6) (RA.refl _ _) ?_
      exact congrArg (fun v => [v]) (slotOf_same a 9 _ (by omega))
    | _ + 15, ho, _ => cases ho
  · intro a w1 hR hF hA
    have f1 : slotOf a 1 = i64 s := hF.slot 1 (by kernel_rfl)
    have f2 : slotOf a 2 = i64 hr := hF.slot 2 (by kernel_rfl)
    have f3 : slotOf a 3 = .pointer (some ⟨w.heap.size, 0, none⟩) := hF.slot 3 (by kernel_rfl)
    have f6 : slotOf a 6 = i64 0 := hF.slot 6 (by kernel_rfl)
    have f7 : slotOf a 7 = i64 0 := hF.slot 7 (by kernel_rfl)
    obtain ⟨b, cs, d8, hzb, hb, hcs⟩ := hA 13 (by decide)
    have f8 : slotOf a 8 = .pointer (some ⟨b, 0, none⟩) := (List.cons.inj d8).1
    have f9 : slotOf a 9 = i64 (askE B ((inB s 0 1) && (hourB B hr))) := (List.cons.inj (hA 14 (by decide))).1
    rw [act_eta a 40 hF.size hF.defers]
    simp only [show List.range 40 = [0, 1, 2, 3, 4, 5, 6, 7, 8, 9, 10, 11, 12, 13, 14, 15, 16, 17, 18, 19, 20, 21, 22, 23, 24, 25, 26, 27, 28, 29, 30, 31, 32, 33, 34, 35, 36, 37, 38, 39] from rfl, List.map_cons, List.map_nil, f1, f2, f3, f6, f7, f8, f9]
    clear hA hF d8 f1 f2 f3 f6 f7 f8 f9
    have hb1 : Below w.heap.size w w1 := hb0.trans (hR.below.mono (by omega))
    have hx1 := (hR.old w.heap.size (by omega)).trans hx0
    have hxc := cells_of hx1
    have hxl := (Array.getElem?_eq_some_iff.1 hx1).1
    have hT1 : SpansAt w1.heap.size w1 tb tq ta B.tides := (hE0.same ⟨hR.size, fun k hk => hR.old k (by omega)⟩).tides.up (by omega)
    by_cases he : askE B ((inB s 0 1) && (hourB B hr)) = 0
    · obtain ⟨his, m, ca, cc, cb, hgd⟩ := Good.of he hcs hb
      have hq : mostR B s hr = mostO ((List.range 201).find? fun (n : Nat) => sureB B s hr (200 - (n : Int))) := by unfold mostR askM; rw [if_pos he]
      have hq := Lib.hid hq
      rw [he]
      clear he hcs
      simp only [Bool.and_eq_true, hourB, inB_iff] at his
      obtain ⟨⟨hs1, hs2⟩, hh1, hh2⟩ := his
      have hs : s = 0 ∨ s = 1 := by omega
      obtain ⟨h, rfl⟩ : ∃ h : Nat, hr = h := ⟨hr.toNat, by omega⟩
      have hh : h < B.tides.length := by omega
      have hs := Lib.hid hs
      go_wp2_with fail
      go_loopw [27] (fun i wr => ∃ k : Nat, k ≤ 201 ∧ i = .int .i64 k ∧ Below w1.heap.size w1 wr ∧ Hid (∀ j, j < k → sureB B s h (200 - (j : Int)) = false)) (fun i _ => 201 - (intOf i).toNat)
      case atStart => exact ⟨0, Nat.zero_le _, rfl, Below.refl _ _, fun j hj => by omega⟩
      case round =>
        obtain ⟨k, hk, rfl, hbw, hno⟩ := hrel
        obtain ⟨hbx, _, _⟩ := hgd.below hbw
        by_cases hlt : k < 201
        · have hlt' : (k : Int) < 201 := by omega
          cases hsv : sureB B s h (200 - (k : Int))
          · have hsv := Lib.hid hsv
            go_wp2_with (first | (refine ld93 rfl _ rfl _ _ rfl hbx rfl ?_) | (go_at_call 79; refine (must_c hgd hT1 h hh s (200 - (k : Int)) hs.out (by omega) (by omega) wr hbw).mono ?_; rintro e w2 ⟨rfl, hb2⟩; rw [hsv.out]; have hbw2 := hbw.trans (hb2.mono hbw.size)))
            go_roundw
            case rel => exact ⟨k + 1, by omega, by go_num, hbw2, fun j hj => by
              rcases Nat.lt_or_ge j k with h' | h'
              · exact hno.out j h'
              · obtain rfl : j = k := by omega
                exact hsv.out⟩
            case measure => simp [intOf]; omega
          · have hsv := Lib.hid hsv
            have hfin : Hid (mostR B s h = (200 - (k : Int), 0)) := by
              show _ = _
              rw [hq.out, show (List.range 201).find? (fun (n : Nat) => sureB B s h (200 - (n : Int))) = some k from List.find?_range_eq_some.2 ⟨hsv.out, List.mem_range.2 hlt, fun j hj => by simp [hno.out j hj]⟩]; rfl
            go_wp2_with (first | (refine ld93 rfl _ rfl _ _ rfl hbx rfl ?_) | (go_at_call 79; refine (must_c hgd hT1 h hh s (200 - (k : Int)) hs.out (by omega) (by omega) wr hbw).mono ?_; rintro e w2 ⟨rfl, hb2⟩; rw [hsv.out]; have hbw2 := hbw.trans (hb2.mono hbw.size)))
            refine bodyPost_ret (results_tmp2 rfl _ _) rfl ?_
            exact ⟨by rw [hfin.out]; rfl, hb1.trans (hbw2.mono hb1.size)⟩
        · have hlt' : ¬ (k : Int) < 201 := by omega
          have hfin : Hid (mostR B s h = (0, 4)) := by
            show _ = _
            rw [hq.out, show (List.range 201).find? (fun (n : Nat) => sureB B s h (200 - (n : Int))) = none from List.find?_eq_none.2 (fun j hj => by rw [hno.out j (by have := List.mem_range.1 hj; omega)]; decide)]; rfl
          go_wp2_with fail
          refine bodyPost_ret (results_tmp2 rfl _ _) rfl ?_
          exact ⟨by rw [hfin.out]; rfl, hb1.trans (hbw.mono hb1.size)⟩
    · have hfl : Hid (mostR B s hr = (0, askE B ((inB s 0 1) && (hourB B hr)))) := Lib.hid (by unfold mostR askM; rw [if_neg he])
      have hq : (askE B ((inB s 0 1) && (hourB B hr)) != 0) = true := by simp [he]
      clear he
      generalize askE B ((inB s 0 1) && (hourB B hr)) = err at *
      go_wp2_with fail
      refine bodyPost_ret (results_tmp2 rfl _ _) rfl ?_
      exact ⟨by rw [hfl.out]; rfl, hb1⟩
end Go.Proofs.YtkbmpkdflgimmaaDoor
/- The contract of First. -/
namespace Go.Proofs.YtkbmpkdflgimmaaDoor
open Go.RowKit Go.Shelf

def FirstPost (B : Book) (s ld : Int) (w : World) (e : Ending) (w' : World) : Prop := e = .returned (.tuple #[i64 (firstR B s ld).1, i64 (firstR B s ld).2]) ∧ Below w.heap.size w w'
def rdFirst (i : Nat) : List Nat := match i with
  | 0 => [12] | 1 => [13] | 2 => [14] | 3 => [15] | 4 => [16] | 5 => [17] | 6 => [18] | 7 => [19] | 8 => [11] | 9 => [20] | 10 => [21] | 11 => [8] | 12 => [8] | 13 => [9] | _ => []
def pureFirst (i : Nat) : Bool := match i with
  | 2 => false | 5 => false | 7 => false | 11 => false | 12 => false | _ => true
def gFirst (z : Nat) (B : Book) (ta : Option Addr) (tc : Nat) (sa : Option Addr) (sc : Nat) (s ld : Int) (i : Nat) (vs : List Value) (W : World) : Prop := match i with
  | 0 => vs = [.agg (bookCells B ta tc sa sc)]
  | 1 => vs = [i64 s]
  | 2 => vs = [.bool (inB s 0 1)]
  | 3 => vs = [.bool (inB s 0 1)]
  | 4 => (inB s 0 1) = true → vs = [i64 ld]
  | 5 => (inB s 0 1) = true → vs = [.bool (inB ld 0 200)]
  | 6 => vs = [.bool ((inB s 0 1) && (inB ld 0 200))]
  | 7 => AskTup z B ta tc sa sc (askE B ((inB s 0 1) && (inB ld 0 200))) vs W
  | 8 => AskTup z B ta tc sa sc (askE B ((inB s 0 1) && (inB ld 0 200))) vs W
  | 9 => AskAgg z B ta tc sa sc (askE B ((inB s 0 1) && (inB ld 0 200))) vs W
  | 10 => vs = [i64 (askE B ((inB s 0 1) && (inB ld 0 200)))]
  | 11 => AskBox z vs W
  | 12 => AskVar z B ta tc sa sc (askE B ((inB s 0 1) && (inB ld 0 200))) vs W
  | 13 => vs = [i64 (askE B ((inB s 0 1) && (inB ld 0 200)))]
  | _ => True
set_option maxRecDepth 100000 in
set_option maxHeartbeats 2000000 in
theorem First_any (nA : Nat) (B : Book) (tb tq : Nat) (ta : Option Addr) (tc : Nat) (sb sq : Nat) (sa : Option Addr) (sc : Nat) (s ld : Int) (w : World) (hn : nA ≤ w.heap.size) (hE : Env nA w B tb tq ta sb sq sa) :
    Calls Tryd.prog 34 #[bookVal B ta tc sa sc, i64 s, i64 ld] w (FirstPost B s ld w) := by
  have hb0 : Below w.heap.size w (w.alloc (.cells (bookCells B ta tc sa sc) 30)) := (Below.refl _ w).alloc (Nat.le_refl _) _
  have hE0 := hE.below hn hb0
  have hx0 : (w.alloc (.cells (bookCells B ta tc sa sc) 30)).heap[w.heap.size]? = some (.cells (bookCells B ta tc sa sc) 30 (0, 0)) := heap_alloc_new w _
  go_enter Tryd.func34, Tryd.ntmps34
  go_wp2_with fail
  refine rg_region rdFirst pureFirst (gFirst (w.heap.size + 1) B ta tc sa sc s ld) (RA (w.heap.size + 1)) (by kernel_rfl) (by kernel_rfl) (fun n => RA.drawn _ _ n) (RA.refl _) (fun _ _ _ => RA.trans) ?_ ?_ ?_
  · intro i hi vs w1 w2 hG hR
    match i, hi, hG with
    | 0, _, hG => exact hG
    | 1, _, hG => exact hG
    | 2, _, hG => exact hG
    | 3, _, hG => exact hG
    | 4, _, hG => exact hG
    | 5, _, hG => exact hG
    | 6, _, hG => exact hG
    | 7, _, hG => exact AskTup.ra hG hR
    | 8, _, hG => exact AskTup.ra hG hR
    | 9, _, hG => exact AskAgg.ra hG hR
    | 10, _, hG => exact hG
    | 11, _, hG => exact AskBox.ra hG hR
    | 12, hi, _ => exact absurd hi (Bool.eq_false_iff.1 (by kernel_rfl))
    | 13, _, hG => exact hG
    | _ + 14, _, _ => trivial
  · intro i o ho a w1 hR hF hD
    have sz : a.tmps.size = 39 := hF.size
    have sB : a.eval (.tmp 3) = .pointer (some ⟨w.heap.size, 0, none⟩) := hF.slot 3 (by kernel_rfl)
    have s1 : a.eval (.tmp 1) = i64 s := hF.slot 1 (by kernel_rfl)
    have s2 : a.eval (.tmp 2) = i64 ld := hF.slot 2 (by kernel_rfl)
    have hz : w.heap.size + 1 ≤ w1.heap.size := by have := hR.size; simpa using this
    have hx := (hR.old w.heap.size (by omega)).trans hx0
    match i, ho, hD with
    | 0, ho, hD =>
      cases ho
      refine rgw_val (wanted_none rfl) (.agg (bookCells B ta tc sa sc)) (ex_load_row 30 _ rfl _ sB 30 _ (0, 0) _ hx Tryd.underlying30 rfl (by rw [size30]; rfl)) (RA.refl _ _) ?_
      exact congrArg (fun v => [v]) (slotOf_same a 12 _ (by omega))
    | 1, ho, hD =>
      cases ho
      refine rgw_val (wanted_none rfl) (i64 s) (ex_move _ rfl _ s1) (RA.refl _ _) ?_
      exact congrArg (fun v => [v]) (slotOf_same a 13 _ (by omega))
    | 2, ho, hD =>
      cases ho
      have e1 := slot_tmps (List.cons.inj (hD 1 (by decide))).1
      refine rgw_call (wanted_none rfl) 76 #[i64 s] (by simp [go_sem, e1]) rfl ?_
      refine (isShore_any s w1).mono ?_
      rintro e w2 ⟨rfl, rfl⟩
      exact ⟨_, rfl, RA.refl _ _, congrArg (fun v => [v]) (slotOf_same a 14 _ (by omega))⟩
    | 3, ho, hD =>
      cases ho
      have e1 : a.eval (.tmp 14) = .bool (inB s 0 1) := (List.cons.inj (hD 2 (by decide))).1
      refine rgw_val (wanted_none rfl) (.bool (inB s 0 1)) (ex_move _ rfl _ e1) (RA.refl _ _) ?_
      exact congrArg (fun v => [v]) (slotOf_same a 15 _ (by omega))
    | 4, ho, hD =>
      cases ho
      have dj : slotOf a 15 = .bool (inB s 0 1) := (List.cons.inj (hD 3 (by decide))).1
      cases hc : inB s 0 1
      · refine rgw_skip (by rw [wanted_of (d := 15) rfl rfl dj, hc]; rfl) ?_
        intro h; rw [hc] at h; cases h
      · have hcw := hc
        refine rgw_val (by rw [wanted_of (d := 15) rfl rfl dj, hc]; rfl) (i64 ld) (ex_move _ rfl _ s2) (RA.refl _ _) ?_
        exact fun _ => congrArg (fun v => [v]) (slotOf_same a 16 _ (by omega))
    | 5, ho, hD =>
      cases ho
      have dj : slotOf a 15 = .bool (inB s 0 1) := (List.cons.inj (hD 3 (by decide))).1
      cases hc : inB s 0 1
      · refine rgw_skip (by rw [wanted_of (d := 15) rfl rfl dj, hc]; rfl) ?_
        intro h; rw [hc] at h; cases h
      · have hcw := hc
        have e1 := slot_tmps (List.cons.inj (hD 4 (by decide) hcw)).1
        refine rgw_call (by rw [wanted_of (d := 15) rfl rfl dj, hc]; rfl) 77 #[i64 ld] (by simp [go_sem, e1]) rfl ?_
        refine (isLoad_any ld w1).mono ?_
        rintro e w2 ⟨rfl, rfl⟩
        exact ⟨_, rfl, RA.refl _ _, fun _ => congrArg (fun v => [v]) (slotOf_same a 17 _ (by omega))⟩
    | 6, ho, hD =>
      cases ho
      have dj : a.eval (.tmp 15) = .bool (inB s 0 1) := (List.cons.inj (hD 3 (by decide))).1
      have d6 : (inB s 0 1) = true → a.eval (.tmp 17) = .bool (inB ld 0 200) := fun h => (List.cons.inj (hD 5 (by decide) h)).1
      refine rgw_val (wanted_none rfl) (.bool ((inB s 0 1) && (inB ld 0 200))) ?_ (RA.refl _ _) (congrArg (fun v => [v]) (slotOf_same a 18 _ (by omega)))
      rw [ex_pick _ _ _ rfl _ dj]
      cases hc : inB s 0 1
      · rfl
      · rw [if_pos rfl, d6 hc, Bool.true_and]
    | 7, ho, hD =>
      cases ho
      have e0 := slot_tmps (List.cons.inj (hD 0 (by decide))).1
      have e1 := slot_tmps (List.cons.inj (hD 6 (by decide))).1
      have hE1 := hE0.same ⟨hR.size, fun k hk => hR.old k (by omega)⟩
      refine rgw_call (wanted_none rfl) 72 #[bookVal B ta tc sa sc, .bool ((inB s 0 1) && (inB ld 0 200))] (by simp [go_sem, e0, e1]) rfl ?_
      refine (asked_any nA B tb tq ta tc sb sq sa sc ((inB s 0 1) && (inB ld 0 200)) w1 (by omega) hE1.gl hE1.tides hE1.sounds).mono ?_
      rintro e w2 ⟨cs, rfl, hb, hcs⟩
      exact ⟨_, rfl, RA.of_below hz hb, cs, congrArg (fun v => [v]) (slotOf_same a 19 _ (by omega)), hcs.down hz⟩
    | 8, ho, hD =>
      cases ho
      obtain ⟨cs, d3, hcs⟩ := hD 7 (by decide)
      have e3 : a.eval (.tmp 19) = _ := (List.cons.inj d3).1
      refine rgw_val (wanted_none rfl) _ (ex_move _ rfl _ e3) (RA.refl _ _) ?_
      exact ⟨cs, congrArg (fun v => [v]) (slotOf_same a 11 _ (by omega)), hcs⟩
    | 9, ho, hD =>
      cases ho
      obtain ⟨cs, d4, hcs⟩ := hD 8 (by decide)
      have e4 : a.eval (.tmp 11) = _ := (List.cons.inj d4).1
      refine rgw_val (wanted_none rfl) (.agg cs) (ex_extract _ _ rfl _ _ e4 rfl) (RA.refl _ _) ?_
      exact ⟨cs, congrArg (fun v => [v]) (slotOf_same a 20 _ (by omega)), hcs⟩
    | 10, ho, hD =>
      cases ho
      obtain ⟨cs, d4, hcs⟩ := hD 8 (by decide)
      have e4 : a.eval (.tmp 11) = _ := (List.cons.inj d4).1
      refine rgw_val (wanted_none rfl) (i64 (askE B ((inB s 0 1) && (inB ld 0 200)))) (ex_extract _ _ rfl _ _ e4 rfl) (RA.refl _ _) ?_
      exact congrArg (fun v => [v]) (slotOf_same a 21 _ (by omega))
    | 11, ho, hD =>
      cases ho
      refine rg_wp rfl rfl ?_
      refine wp_of_run (v := .pointer (some ⟨w1.heap.size, 0, none⟩)) (w' := w1.alloc (.cells zero93 93)) (by simp [go_sem]) ?_
      exact ⟨_, rfl, RA.of_below hz ((Below.refl _ _).alloc (Nat.le_refl _) _), _, _, congrArg (fun v => [v]) (slotOf_same a 8 _ (by omega)), hz, heap_alloc_new _ _, rfl⟩
    | 12, ho, hD =>
      cases ho
      obtain ⟨cs, d5, hcs⟩ := hD 9 (by decide)
      obtain ⟨b, c, d7, hzb, hb, hc⟩ := hD 11 (by decide)
      have e5 : a.eval (.tmp 20) = _ := (List.cons.inj d5).1
      have e7 : a.eval (.tmp 8) = _ := (List.cons.inj d7).1
      refine rg_wp rfl rfl ?_
      refine wp_store_row 93 _ _ rfl b cs e7 e5 93 c hb (by rw [size93, hcs.size]) (by rw [hc, hcs.size]) hcs.one ?_
      have hra := RA.store hzb hb (by rw [hc, hcs.size] : cs.size = c.size)
      exact ⟨undef, rfl, hra, b, cs, d7, hzb, setRow_heap _ _ _ _ _ _ hb, hcs.ra hra⟩
    | 13, ho, hD =>
      cases ho
      have d6 : a.eval (.tmp 21) = i64 (askE B ((inB s 0 1) && (inB ld 0 200))) := (List.cons.inj (hD 10 (by decide))).1
      refine rgw_val (wanted_none rfl) _ (ex_assign _ rfl _ d6) (RA.refl _ _) ?_
      exact congrArg (fun v => [v]) (slotOf_same a 9 _ (by omega))
    | _ + 14, ho, _ => cases ho
  · intro a w1 hR hF hA
    have f1 : slotOf a 1 = i64 s := hF.slot 1 (by kernel_rfl)
    have f2 : slotOf a 2 = i64 ld := hF.slot 2 (by kernel_rfl)
    have f3 : slotOf a 3 = .pointer (some ⟨w.heap.size, 0, none⟩) := hF.slot 3 (by kernel_rfl)
    have f6 : slotOf a 6 = i64 0 := hF.slot 6 (by kernel_rfl)
    have f7 : slotOf a 7 = i64 0 := hF.slot 7 (by kernel_rfl)
    obtain ⟨b, cs, d8, hzb, hb, hcs⟩ := hA 12 (by decide)
    have f8 : slotOf a 8 = .pointer (some ⟨b, 0, none⟩) := (List.cons.inj d8).1
    have f9 : slotOf a 9 = i64 (askE B ((inB s 0 1) && (inB ld 0 200))) := (List.cons.inj (hA 13 (by decide))).1
    rw [act_eta a 39 hF.size hF.defers]
    simp only [show List.range 39 = [0, 1, 2, 3, 4, 5, 6, 7, 8, 9, 10, 11, 12, 13, 14, 15, 16, 17, 18, 19, 20, 21, 22, 23, 24, 25, 26, 27, 28, 29, 30, 31, 32, 33, 34, 35, 36, 37, 38] from rfl, List.map_cons, List.map_nil, f1, f2, f3, f6, f7, f8, f9]
    clear hA hF d8 f1 f2 f3 f6 f7 f8 f9
    have hb1 : Below w.heap.size w w1 := hb0.trans (hR.below.mono (by omega))
    have hx1 := (hR.old w.heap.size (by omega)).trans hx0
    have hxc := cells_of hx1
    have hxl := (Array.getElem?_eq_some_iff.1 hx1).1
    have hT1 : SpansAt w1.heap.size w1 tb tq ta B.tides := (hE0.same ⟨hR.size, fun k hk => hR.old k (by omega)⟩).tides.up (by omega)
    by_cases he : askE B ((inB s 0 1) && (inB ld 0 200)) = 0
    · obtain ⟨his, m, ca, cc, cb, hgd⟩ := Good.of he hcs hb
      have hq : firstR B s ld = firstO ((List.range B.tides.length).find? fun (h : Nat) => sureB B s h ld) := by unfold firstR askF; rw [if_pos he]
      have hq := Lib.hid hq
      rw [he]
      clear he hcs
      simp only [Bool.and_eq_true, inB_iff] at his
      obtain ⟨⟨hs1, hs2⟩, hl1, hl2⟩ := his
      have hs : s = 0 ∨ s = 1 := by omega
      have hs := Lib.hid hs
      have h24 := hgd.vb.h24
      go_wp2_with fail
      go_loopw [28] (fun i wr => ∃ k : Nat, k ≤ B.tides.length ∧ i = .int .i64 k ∧ Below w1.heap.size w1 wr ∧ Hid (∀ j : Nat, j < k → sureB B s j ld = false)) (fun i _ => B.tides.length - (intOf i).toNat)
      case atStart => exact ⟨0, Nat.zero_le _, rfl, Below.refl _ _, fun j hj => by omega⟩
      case round =>
        obtain ⟨k, hk, rfl, hbw, hno⟩ := hrel
        obtain ⟨hbx, _, _⟩ := hgd.below hbw
        by_cases hlt : k < B.tides.length
        · cases hsv : sureB B s k ld
          · have hsv := Lib.hid hsv
            go_wp2_with (first | (refine ld93 rfl _ rfl _ _ rfl hbx rfl ?_) | (go_at_call 79; refine (must_c hgd hT1 k hlt s ld hs.out (by omega) (by omega) wr hbw).mono ?_; rintro e w2 ⟨rfl, hb2⟩; rw [hsv.out]; have hbw2 := hbw.trans (hb2.mono hbw.size)))
            go_roundw
            case rel => exact ⟨k + 1, by omega, by go_num, hbw2, fun j hj => by
              rcases Nat.lt_or_ge j k with h' | h'
              · exact hno.out j h'
              · obtain rfl : j = k := by omega
                exact hsv.out⟩
            case measure => simp [intOf]; omega
          · have hsv := Lib.hid hsv
            have hfin : Hid (firstR B s ld = ((k : Int), 0)) := by
              show _ = _
              rw [hq.out, show (List.range B.tides.length).find? (fun (h : Nat) => sureB B s h ld) = some k from List.find?_range_eq_some.2 ⟨hsv.out, List.mem_range.2 hlt, fun j hj => by simp [hno.out j hj]⟩]; rfl
            go_wp2_with (first | (refine ld93 rfl _ rfl _ _ rfl hbx rfl ?_) | (go_at_call 79; refine (must_c hgd hT1 k hlt s ld hs.out (by omega) (by omega) wr hbw).mono ?_; rintro e w2 ⟨rfl, hb2⟩; rw [hsv.out]; have hbw2 := hbw.trans (hb2.mono hbw.size)))
            refine bodyPost_ret (results_tmp2 rfl _ _) rfl ?_
            exact ⟨by rw [hfin.out]; rfl, hb1.trans (hbw2.mono hb1.size)⟩
        · have hke : ¬ (k : Int) < (B.tides.length : Int) := by omega
          have hfin : Hid (firstR B s ld = (0, 4)) := by
            show _ = _
            rw [hq.out, show (List.range B.tides.length).find? (fun (h : Nat) => sureB B s h ld) = none from List.find?_eq_none.2 (fun j hj => by rw [hno.out j (by have := List.mem_range.1 hj; omega)]; decide)]; rfl
          go_wp2_with fail
          refine bodyPost_ret (results_tmp2 rfl _ _) rfl ?_
          exact ⟨by rw [hfin.out]; rfl, hb1.trans (hbw.mono hb1.size)⟩
    · have hfl : Hid (firstR B s ld = (0, askE B ((inB s 0 1) && (inB ld 0 200)))) := Lib.hid (by unfold firstR askF; rw [if_neg he])
      have hq : (askE B ((inB s 0 1) && (inB ld 0 200)) != 0) = true := by simp [he]
      clear he
      generalize askE B ((inB s 0 1) && (inB ld 0 200)) = err at *
      go_wp2_with fail
      refine bodyPost_ret (results_tmp2 rfl _ _) rfl ?_
      exact ⟨by rw [hfl.out]; rfl, hb1⟩
end Go.Proofs.YtkbmpkdflgimmaaDoor
/- The contract of Lands. -/
namespace Go.Proofs.YtkbmpkdflgimmaaDoor
open Go.RowKit Go.Shelf

/-- The package's table of functions. -/
structure Asks (n : Nat) (W : World) : Prop where
  n1 : 1 ≤ n
  a0 : W.cell? ⟨0, 0, none⟩ = some (.func (.func 122) #[] #[])
  a1 : W.cell? ⟨0, 1, none⟩ = some (.func (.func 79) #[] #[])
theorem Asks.same {n : Nat} {W W' : World} (h : Asks n W) (hb : Same n W W') : Asks n W' := by
  have := h.n1
  exact ⟨h.n1, (hb.cell (p := ⟨0, 0, none⟩) (by show 0 < n; omega)).trans h.a0, (hb.cell (p := ⟨0, 1, none⟩) (by show 0 < n; omega)).trans h.a1⟩
theorem ix105_0 (a b : Value) (w : World) : (Instr.index 105 (.agg #[a, b]) (.int .i64 0)).run Tryd.prog w = .ok a w := by kernel_rfl
theorem ix105_1 (a b : Value) (w : World) : (Instr.index 105 (.agg #[a, b]) (.int .i64 1)).run Tryd.prog w = .ok b w := by kernel_rfl
def cnL (B : Book) (s hr ld : Int) : Nat → Int
  | 0 => 0
  | 1 => if maybeB B s hr ld then 1 else 0
  | _ => (if maybeB B s hr ld then 1 else 0) + (if sureB B s hr ld then 1 else 0)
def LandsRPost (B : Book) (s hr ld : Int) (w : World) (e : Ending) (w' : World) : Prop := e = .returned (.tuple #[i64 (landsR B s hr ld).1, i64 (landsR B s hr ld).2]) ∧ Below w.heap.size w w'
def rdLandsR (i : Nat) : List Nat := match i with
  | 0 => [16] | 1 => [17] | 2 => [18] | 3 => [19] | 4 => [20] | 5 => [21] | 6 => [22] | 7 => [23] | 8 => [24] | 9 => [25] | 10 => [26] | 11 => [27] | 12 => [28] | 13 => [15] | 14 => [29] | 15 => [30] | 16 => [10] | 17 => [10] | 18 => [11] | _ => []
def pureLandsR (i : Nat) : Bool := match i with
  | 2 => false | 6 => false | 10 => false | 12 => false | 16 => false | 17 => false | _ => true
def gLandsR (z : Nat) (B : Book) (ta : Option Addr) (tc : Nat) (sa : Option Addr) (sc : Nat) (s hr ld : Int) (i : Nat) (vs : List Value) (W : World) : Prop := match i with
  | 0 => vs = [.agg (bookCells B ta tc sa sc)]
  | 1 => vs = [i64 s]
  | 2 => vs = [.bool (inB s 0 1)]
  | 3 => vs = [.bool (inB s 0 1)]
  | 4 => (inB s 0 1) = true → vs = [.agg (bookCells B ta tc sa sc)]
  | 5 => (inB s 0 1) = true → vs = [i64 hr]
  | 6 => (inB s 0 1) = true → vs = [.bool (hourB B hr)]
  | 7 => vs = [.bool ((inB s 0 1) && (hourB B hr))]
  | 8 => vs = [.bool ((inB s 0 1) && (hourB B hr))]
  | 9 => ((inB s 0 1) && (hourB B hr)) = true → vs = [i64 ld]
  | 10 => ((inB s 0 1) && (hourB B hr)) = true → vs = [.bool (inB ld 0 200)]
  | 11 => vs = [.bool (((inB s 0 1) && (hourB B hr)) && (inB ld 0 200))]
  | 12 => AskTup z B ta tc sa sc (askE B (((inB s 0 1) && (hourB B hr)) && (inB ld 0 200))) vs W
  | 13 => AskTup z B ta tc sa sc (askE B (((inB s 0 1) && (hourB B hr)) && (inB ld 0 200))) vs W
  | 14 => AskAgg z B ta tc sa sc (askE B (((inB s 0 1) && (hourB B hr)) && (inB ld 0 200))) vs W
  | 15 => vs = [i64 (askE B (((inB s 0 1) && (hourB B hr)) && (inB ld 0 200)))]
  | 16 => AskBox z vs W
  | 17 => AskVar z B ta tc sa sc (askE B (((inB s 0 1) && (hourB B hr)) && (inB ld 0 200))) vs W
  | 18 => vs = [i64 (askE B (((inB s 0 1) && (hourB B hr)) && (inB ld 0 200)))]
  | _ => True
set_option maxRecDepth 100000 in
set_option maxHeartbeats 2000000 in
theorem LandsR_any (nA : Nat) (B : Book) (tb tq : Nat) (ta : Option Addr) (tc : Nat) (sb sq : Nat) (sa : Option Addr) (sc : Nat) (s hr ld : Int) (w : World) (hn : nA ≤ w.heap.size) (hE : Env nA w B tb tq ta sb sq sa) (hAs : Asks nA w) :
    Calls Tryd.prog 29 #[bookVal B ta tc sa sc, i64 s, i64 hr, i64 ld] w (LandsRPost B s hr ld w) := by
  have hb0 : Below w.heap.size w (w.alloc (.cells (bookCells B ta tc sa sc) 30)) := (Below.refl _ w).alloc (Nat.le_refl _) _
  have hE0 := hE.below hn hb0
  have hx0 : (w.alloc (.cells (bookCells B ta tc sa sc) 30)).heap[w.heap.size]? = some (.cells (bookCells B ta tc sa sc) 30 (0, 0)) := heap_alloc_new w _
  go_enter Tryd.func29, Tryd.ntmps29
  go_wp2_with fail
  refine rg_region rdLandsR pureLandsR (gLandsR (w.heap.size + 1) B ta tc sa sc s hr ld) (RA (w.heap.size + 1)) (by kernel_rfl) (by kernel_rfl) (fun n => RA.drawn _ _ n) (RA.refl _) (fun _ _ _ => RA.trans) ?_ ?_ ?_
  · intro i hi vs w1 w2 hG hR
    match i, hi, hG with
    | 0, _, hG => exact hG
    | 1, _, hG => exact hG
    | 2, _, hG => exact hG
    | 3, _, hG => exact hG
    | 4, _, hG => exact hG
    | 5, _, hG => exact hG
    | 6, _, hG => exact hG
    | 7, _, hG => exact hG
    | 8, _, hG => exact hG
    | 9, _, hG => exact hG
    | 10, _, hG => exact hG
    | 11, _, hG => exact hG
    | 12, _, hG => exact AskTup.ra hG hR
    | 13, _, hG => exact AskTup.ra hG hR
    | 14, _, hG => exact AskAgg.ra hG hR
    | 15, _, hG => exact hG
    | 16, _, hG => exact AskBox.ra hG hR
    | 17, hi, _ => exact absurd hi (Bool.eq_false_iff.1 (by kernel_rfl))
    | 18, _, hG => exact hG
    | _ + 19, _, _ => trivial
  · intro i o ho a w1 hR hF hD
    have sz : a.tmps.size = 49 := hF.size
    have sB : a.eval (.tmp 4) = .pointer (some ⟨w.heap.size, 0, none⟩) := hF.slot 4 (by kernel_rfl)
    have s1 : a.eval (.tmp 1) = i64 s := hF.slot 1 (by kernel_rfl)
    have s2 : a.eval (.tmp 2) = i64 hr := hF.slot 2 (by kernel_rfl)
    have s3 : a.eval (.tmp 3) = i64 ld := hF.slot 3 (by kernel_rfl)
    have hz : w.heap.size + 1 ≤ w1.heap.size := by have := hR.size; simpa using this
    have hx := (hR.old w.heap.size (by omega)).trans hx0
    match i, ho, hD with
    | 0, ho, hD =>
      cases ho
      refine rgw_val (wanted_none rfl) (.agg (bookCells B ta tc sa sc)) (ex_load_row 30 _ rfl _ sB 30 _ (0, 0) _ hx Tryd.underlying30 rfl (by rw [size30]; rfl)) (RA.refl _ _) ?_
      exact congrArg (fun v => [v]) (slotOf_same a 16 _ (by omega))
    | 1, ho, hD =>
      cases ho
      refine rgw_val (wanted_none rfl) (i64 s) (ex_move _ rfl _ s1) (RA.refl _ _) ?_
      exact congrArg (fun v => [v]) (slotOf_same a 17 _ (by omega))
    | 2, ho, hD =>
      cases ho
      have e1 := slot_tmps (List.cons.inj (hD 1 (by decide))).1
      refine rgw_call (wanted_none rfl) 76 #[i64 s] (by simp [go_sem, e1]) rfl ?_
      refine (isShore_any s w1).mono ?_
      rintro e w2 ⟨rfl, rfl⟩
      exact ⟨_, rfl, RA.refl _ _, congrArg (fun v => [v]) (slotOf_same a 18 _ (by omega))⟩
    | 3, ho, hD =>
      cases ho
      have e1 : a.eval (.tmp 18) = .bool (inB s 0 1) := (List.cons.inj (hD 2 (by decide))).1
      refine rgw_val (wanted_none rfl) (.bool (inB s 0 1)) (ex_move _ rfl _ e1) (RA.refl _ _) ?_
      exact congrArg (fun v => [v]) (slotOf_same a 19 _ (by omega))
    | 4, ho, hD =>
      cases ho
      have dj : slotOf a 19 = .bool (inB s 0 1) := (List.cons.inj (hD 3 (by decide))).1
      cases hc : inB s 0 1
      · refine rgw_skip (by rw [wanted_of (d := 19) rfl rfl dj, hc]; rfl) ?_
        intro h; rw [hc] at h; cases h
      · have hcw := hc
        refine rgw_val (by rw [wanted_of (d := 19) rfl rfl dj, hc]; rfl) (.agg (bookCells B ta tc sa sc)) (ex_load_row 30 _ rfl _ sB 30 _ (0, 0) _ hx Tryd.underlying30 rfl (by rw [size30]; rfl)) (RA.refl _ _) ?_
        exact fun _ => congrArg (fun v => [v]) (slotOf_same a 20 _ (by omega))
    | 5, ho, hD =>
      cases ho
      have dj : slotOf a 19 = .bool (inB s 0 1) := (List.cons.inj (hD 3 (by decide))).1
      cases hc : inB s 0 1
      · refine rgw_skip (by rw [wanted_of (d := 19) rfl rfl dj, hc]; rfl) ?_
        intro h; rw [hc] at h; cases h
      · have hcw := hc
        refine rgw_val (by rw [wanted_of (d := 19) rfl rfl dj, hc]; rfl) (i64 hr) (ex_move _ rfl _ s2) (RA.refl _ _) ?_
        exact fun _ => congrArg (fun v => [v]) (slotOf_same a 21 _ (by omega))
    | 6, ho, hD =>
      cases ho
      have dj : slotOf a 19 = .bool (inB s 0 1) := (List.cons.inj (hD 3 (by decide))).1
      cases hc : inB s 0 1
      · refine rgw_skip (by rw [wanted_of (d := 19) rfl rfl dj, hc]; rfl) ?_
        intro h; rw [hc] at h; cases h
      · have hcw := hc
        have e0 := slot_tmps (List.cons.inj (hD 4 (by decide) hcw)).1
        have e1 := slot_tmps (List.cons.inj (hD 5 (by decide) hcw)).1
        refine rgw_call (by rw [wanted_of (d := 19) rfl rfl dj, hc]; rfl) 73 #[bookVal B ta tc sa sc, i64 hr] (by simp [go_sem, e0, e1]) rfl ?_
        refine (isHour_any B ta tc sa sc hr w1 hE.tides.len).mono ?_
        rintro e w2 ⟨rfl, hb⟩
        exact ⟨_, rfl, RA.of_below hz hb, fun _ => congrArg (fun v => [v]) (slotOf_same a 22 _ (by omega))⟩
    | 7, ho, hD =>
      cases ho
      have dj : a.eval (.tmp 19) = .bool (inB s 0 1) := (List.cons.inj (hD 3 (by decide))).1
      have d6 : (inB s 0 1) = true → a.eval (.tmp 22) = .bool (hourB B hr) := fun h => (List.cons.inj (hD 6 (by decide) h)).1
      refine rgw_val (wanted_none rfl) (.bool ((inB s 0 1) && (hourB B hr))) ?_ (RA.refl _ _) (congrArg (fun v => [v]) (slotOf_same a 23 _ (by omega)))
      rw [ex_pick _ _ _ rfl _ dj]
      cases hc : inB s 0 1
      · rfl
      · rw [if_pos rfl, d6 hc, Bool.true_and]
    | 8, ho, hD =>
      cases ho
      have e1 : a.eval (.tmp 23) = .bool ((inB s 0 1) && (hourB B hr)) := (List.cons.inj (hD 7 (by decide))).1
      refine rgw_val (wanted_none rfl) (.bool ((inB s 0 1) && (hourB B hr))) (ex_move _ rfl _ e1) (RA.refl _ _) ?_
      exact congrArg (fun v => [v]) (slotOf_same a 24 _ (by omega))
    | 9, ho, hD =>
      cases ho
      have dj : slotOf a 24 = .bool ((inB s 0 1) && (hourB B hr)) := (List.cons.inj (hD 8 (by decide))).1
      cases hc : (inB s 0 1) && (hourB B hr)
      · refine rgw_skip (by rw [wanted_of (d := 24) rfl rfl dj, hc]; rfl) ?_
        intro h; rw [hc] at h; cases h
      · have hcw := hc
        refine rgw_val (by rw [wanted_of (d := 24) rfl rfl dj, hc]; rfl) (i64 ld) (ex_move _ rfl _ s3) (RA.refl _ _) ?_
        exact fun _ => congrArg (fun v => [v]) (slotOf_same a 25 _ (by omega))
    | 10, ho, hD =>
      cases ho
      have dj : slotOf a 24 = .bool ((inB s 0 1) && (hourB B hr)) := (List.cons.inj (hD 8 (by decide))).1
      cases hc : (inB s 0 1) && (hourB B hr)
      · refine rgw_skip (by rw [wanted_of (d := 24) rfl rfl dj, hc]; rfl) ?_
        intro h; rw [hc] at h; cases h
      · have hcw := hc
        have e1 := slot_tmps (List.cons.inj (hD 9 (by decide) hcw)).1
        refine rgw_call (by rw [wanted_of (d := 24) rfl rfl dj, hc]; rfl) 77 #[i64 ld] (by simp [go_sem, e1]) rfl ?_
        refine (isLoad_any ld w1).mono ?_
        rintro e w2 ⟨rfl, rfl⟩
        exact ⟨_, rfl, RA.refl _ _, fun _ => congrArg (fun v => [v]) (slotOf_same a 26 _ (by omega))⟩
    | 11, ho, hD =>
      cases ho
      have dj : a.eval (.tmp 24) = .bool ((inB s 0 1) && (hourB B hr)) := (List.cons.inj (hD 8 (by decide))).1
      have d6 : ((inB s 0 1) && (hourB B hr)) = true → a.eval (.tmp 26) = .bool (inB ld 0 200) := fun h => (List.cons.inj (hD 10 (by decide) h)).1
      refine rgw_val (wanted_none rfl) (.bool (((inB s 0 1) && (hourB B hr)) && (inB ld 0 200))) ?_ (RA.refl _ _) (congrArg (fun v => [v]) (slotOf_same a 27 _ (by omega)))
      rw [ex_pick _ _ _ rfl _ dj]
      cases hc : (inB s 0 1) && (hourB B hr)
      · rfl
      · rw [if_pos rfl, d6 hc, Bool.true_and]
    | 12, ho, hD =>
      cases ho
      have e0 := slot_tmps (List.cons.inj (hD 0 (by decide))).1
      have e1 := slot_tmps (List.cons.inj (hD 11 (by decide))).1
      have hE1 := hE0.same ⟨hR.size, fun k hk => hR.old k (by omega)⟩
      refine rgw_call (wanted_none rfl) 72 #[bookVal B ta tc sa sc, .bool (((inB s 0 1) && (hourB B hr)) && (inB ld 0 200))] (by simp [go_sem, e0, e1]) rfl ?_
      refine (asked_any nA B tb tq ta tc sb sq sa sc (((inB s 0 1) && (hourB B hr)) && (inB ld 0 200)) w1 (by omega) hE1.gl hE1.tides hE1.sounds).mono ?_
      rintro e w2 ⟨cs, rfl, hb, hcs⟩
      exact ⟨_, rfl, RA.of_below hz hb, cs, congrArg (fun v => [v]) (slotOf_same a 28 _ (by omega)), hcs.down hz⟩
    | 13, ho, hD =>
      cases ho
      obtain ⟨cs, d3, hcs⟩ := hD 12 (by decide)
      have e3 : a.eval (.tmp 28) = _ := (List.cons.inj d3).1
      refine rgw_val (wanted_none rfl) _ (ex_move _ rfl _ e3) (RA.refl _ _) ?_
      exact ⟨cs, congrArg (fun v => [v]) (slotOf_same a 15 _ (by omega)), hcs⟩
    | 14, ho, hD =>
      cases ho
      obtain ⟨cs, d4, hcs⟩ := hD 13 (by decide)
      have e4 : a.eval (.tmp 15) = _ := (List.cons.inj d4).1
      refine rgw_val (wanted_none rfl) (.agg cs) (ex_extract _ _ rfl _ _ e4 rfl) (RA.refl _ _) ?_
      exact ⟨cs, congrArg (fun v => [v]) (slotOf_same a 29 _ (by omega)), hcs⟩
    | 15, ho, hD =>
      cases ho
      obtain ⟨cs, d4, hcs⟩ := hD 13 (by decide)
      have e4 : a.eval (.tmp 15) = _ := (List.cons.inj d4).1
      refine rgw_val (wanted_none rfl) (i64 (askE B (((inB s 0 1) && (hourB B hr)) && (inB ld 0 200)))) (ex_extract _ _ rfl _ _ e4 rfl) (RA.refl _ _) ?_
      exact congrArg (fun v => [v]) (slotOf_same a 30 _ (by omega))
    | 16, ho, hD =>
      cases ho
      refine rg_wp rfl rfl ?_
      refine wp_of_run (v := .pointer (some ⟨w1.heap.size, 0, none⟩)) (w' := w1.alloc (.cells zero93 93)) (by simp [go_sem]) ?_
      exact ⟨_, rfl, RA.of_below hz ((Below.refl _ _).alloc (Nat.le_refl _) _), _, _, congrArg (fun v => [v]) (slotOf_same a 10 _ (by omega)), hz, heap_alloc_new _ _, rfl⟩
    | 17, ho, hD =>
      cases ho
      obtain ⟨cs, d5, hcs⟩ := hD 14 (by decide)
      obtain ⟨b, c, d7, hzb, hb, hc⟩ := hD 16 (by decide)
      have e5 : a.eval (.tmp 29) = _ := (List.cons.inj d5).1
      have e7 : a.eval (.tmp 10) = _ := (List.cons.inj d7).1
      refine rg_wp rfl rfl ?_
      refine wp_store_row 93 _ _ rfl b cs e7 e5 93 c hb (by rw [size93, hcs.size]) (by rw [hc, hcs.size]) hcs.one ?_
      have hra := RA.store hzb hb (by rw [hc, hcs.size] : cs.size = c.size)
      exact ⟨undef, rfl, hra, b, cs, d7, hzb, setRow_heap _ _ _ _ _ _ hb, hcs.ra hra⟩
    | 18, ho, hD =>
      cases ho
      have d6 : a.eval (.tmp 30) = i64 (askE B (((inB s 0 1) && (hourB B hr)) && (inB ld 0 200))) := (List.cons.inj (hD 15 (by decide))).1
      refine rgw_val (wanted_none rfl) _ (ex_assign _ rfl _ d6) (RA.refl _ _) ?_
      exact congrArg (fun v => [v]) (slotOf_same a 11 _ (by omega))
    | _ + 19, ho, _ => cases ho
  · intro a w1 hR hF hA
    have f1 : slotOf a 1 = i64 s := hF.slot 1 (by kernel_rfl)
    have f2 : slotOf a 2 = i64 hr := hF.slot 2 (by kernel_rfl)
    have f3 : slotOf a 3 = i64 ld := hF.slot 3 (by kernel_rfl)
    have f4 : slotOf a 4 = .pointer (some ⟨w.heap.size, 0, none⟩) := hF.slot 4 (by kernel_rfl)
    have f8 : slotOf a 8 = i64 0 := hF.slot 8 (by kernel_rfl)
    have f9 : slotOf a 9 = i64 0 := hF.slot 9 (by kernel_rfl)
    obtain ⟨b, cs, d8, hzb, hb, hcs⟩ := hA 17 (by decide)
    have f10 : slotOf a 10 = .pointer (some ⟨b, 0, none⟩) := (List.cons.inj d8).1
    have f11 : slotOf a 11 = i64 (askE B (((inB s 0 1) && (hourB B hr)) && (inB ld 0 200))) := (List.cons.inj (hA 18 (by decide))).1
    rw [act_eta a 49 hF.size hF.defers]
    simp only [show List.range 49 = [0, 1, 2, 3, 4, 5, 6, 7, 8, 9, 10, 11, 12, 13, 14, 15, 16, 17, 18, 19, 20, 21, 22, 23, 24, 25, 26, 27, 28, 29, 30, 31, 32, 33, 34, 35, 36, 37, 38, 39, 40, 41, 42, 43, 44, 45, 46, 47, 48] from rfl, List.map_cons, List.map_nil, f1, f2, f3, f4, f8, f9, f10, f11]
    clear hA hF d8 f1 f2 f3 f4 f8 f9 f10 f11
    have hb1 : Below w.heap.size w w1 := hb0.trans (hR.below.mono (by omega))
    have hx1 := (hR.old w.heap.size (by omega)).trans hx0
    have hxc := cells_of hx1
    have hxl := (Array.getElem?_eq_some_iff.1 hx1).1
    have hT1 : SpansAt w1.heap.size w1 tb tq ta B.tides := (hE0.same ⟨hR.size, fun k hk => hR.old k (by omega)⟩).tides.up (by omega)
    by_cases he : askE B (((inB s 0 1) && (hourB B hr)) && (inB ld 0 200)) = 0
    · obtain ⟨his, m, ca, cc, cb, hgd⟩ := Good.of he hcs hb
      have hq : landsR B s hr ld = ((if maybeB B s hr ld then 1 else 0) + (if sureB B s hr ld then 1 else 0), 0) := by unfold landsR askL; rw [if_pos he]
      have hq := Lib.hid hq
      rw [he]
      clear he hcs
      simp only [Bool.and_eq_true, hourB, inB_iff] at his
      obtain ⟨⟨⟨hs1, hs2⟩, hh1, hh2⟩, hl1, hl2⟩ := his
      have hs : s = 0 ∨ s = 1 := by omega
      obtain ⟨h, rfl⟩ : ∃ h : Nat, hr = h := ⟨hr.toNat, by omega⟩
      have hh : h < B.tides.length := by omega
      have hs := Lib.hid hs
      have M0 := fun W hW => may_c hgd hT1 h hh s ld hs.out (by omega) (by omega) W hW
      have M1 := fun W hW => must_c hgd hT1 h hh s ld hs.out (by omega) (by omega) W hW
      have hA1 := hAs.same ((Same.of_below hb1).mono hn)
      have ha0 := hA1.a0
      have ha1 := hA1.a1
      have hi0 := ix105_0 (.func (.func 122) #[] #[]) (.func (.func 79) #[] #[])
      have hi1 := ix105_1 (.func (.func 122) #[] #[]) (.func (.func 79) #[] #[])
      have hbx := hgd.box
      have h00 : 0 < w1.heap.size := by omega
      clear hs1 hs2
      go_wp2_with fail
      go_loopw [35, 12] (fun i c wr => ∃ (k : Nat) (y : Int), k ≤ 2 ∧ i = .int .i64 k ∧ c = i64 y ∧ Hid (y = cnL B s h ld k) ∧ Below w1.heap.size w1 wr) (fun i _ _ => 2 - (intOf i).toNat)
      case atStart => exact ⟨0, 0, by omega, rfl, rfl, rfl, Below.refl _ _⟩
      case round =>
        obtain ⟨k, y, hk, rfl, rfl, hy, hbw⟩ := hrel
        have hbx := (hgd.below hbw).1
        rcases (by omega : k = 0 ∨ k = 1 ∨ k = 2) with rfl | rfl | rfl
        · obtain rfl : y = 0 := hy.out
          clear hy
          cases hv : maybeB B s h ld
          · have hv := Lib.hid hv
            go_wp2_with (first | (refine ld93 rfl _ rfl _ _ rfl hbx rfl ?_) | (go_at_call 122; (with_reducible refine (M0 wr hbw).mono ?_); rintro e w2 ⟨rfl, hb2⟩; rw [hv.out]; have hbw2 := hbw.trans (hb2.mono hbw.size)))
            go_roundw
            case rel => exact ⟨1, 0, by omega, by go_num, rfl, by show _ = cnL _ _ _ _ 1; simp [cnL, hv.out], hbw2⟩
            case measure => simp [intOf]
          · have hv := Lib.hid hv
            go_wp2_with (first | (refine ld93 rfl _ rfl _ _ rfl hbx rfl ?_) | (go_at_call 122; (with_reducible refine (M0 wr hbw).mono ?_); rintro e w2 ⟨rfl, hb2⟩; rw [hv.out]; have hbw2 := hbw.trans (hb2.mono hbw.size)))
            go_roundw
            case rel => exact ⟨1, 1, by omega, by go_num, rfl, by show _ = cnL _ _ _ _ 1; simp [cnL, hv.out], hbw2⟩
            case measure => simp [intOf]
        · have hy01 : 0 ≤ y ∧ y ≤ 1 := by
            show _ ∧ _
            rw [hy.out, show cnL B s h ld 1 = (if maybeB B s h ld then 1 else 0) from rfl]
            split <;> simp
          obtain ⟨hy0, hy1⟩ := hy01
          cases hv : sureB B s h ld
          · have hv := Lib.hid hv
            go_wp2_with (first | (refine ld93 rfl _ rfl _ _ rfl hbx rfl ?_) | (go_at_call 79; (with_reducible refine (M1 wr hbw).mono ?_); rintro e w2 ⟨rfl, hb2⟩; rw [hv.out]; have hbw2 := hbw.trans (hb2.mono hbw.size)))
            go_roundw
            case rel => exact ⟨2, y, by omega, by go_num, rfl, by show _ = cnL _ _ _ _ 2; have := hy.out; simp [cnL, hv.out] at this ⊢; omega, hbw2⟩
            case measure => simp [intOf]
          · have hv := Lib.hid hv
            go_wp2_with (first | (refine ld93 rfl _ rfl _ _ rfl hbx rfl ?_) | (go_at_call 79; (with_reducible refine (M1 wr hbw).mono ?_); rintro e w2 ⟨rfl, hb2⟩; rw [hv.out]; have hbw2 := hbw.trans (hb2.mono hbw.size)))
            go_roundw
            case rel => exact ⟨2, y + 1, by omega, by go_num, rfl, by show _ = cnL _ _ _ _ 2; have := hy.out; simp [cnL, hv.out] at this ⊢; omega, hbw2⟩
            case measure => simp [intOf]
        · have hfin : Hid (landsR B s h ld = (y, 0)) := by
            show _ = _
            rw [hq.out, hy.out]
            rfl
          go_wp2_with fail
          refine bodyPost_ret (results_tmp2 rfl _ _) rfl ?_
          exact ⟨by rw [hfin.out]; rfl, hb1.trans (hbw.mono hb1.size)⟩
    · have hfl : Hid (landsR B s hr ld = (0, askE B (((inB s 0 1) && (hourB B hr)) && (inB ld 0 200)))) := Lib.hid (by unfold landsR askL; rw [if_neg he])
      have hq : (askE B (((inB s 0 1) && (hourB B hr)) && (inB ld 0 200)) != 0) = true := by simp [he]
      clear he
      generalize askE B (((inB s 0 1) && (hourB B hr)) && (inB ld 0 200)) = err at *
      go_wp2_with fail
      refine bodyPost_ret (results_tmp2 rfl _ _) rfl ?_
      exact ⟨by rw [hfl.out]; rfl, hb1⟩
end Go.Proofs.YtkbmpkdflgimmaaDoor
/- The contract of Both. -/
namespace Go.Proofs.YtkbmpkdflgimmaaDoor
open Go.RowKit Go.Shelf

theorem ownsRow_below {w w' : World} {base : Nat} {e : TypeId} {size : Nat} {v : Value} {n : Nat} {xs : List Value} (h : w.ownsRow base e size v n xs) (hb : Below w.heap.size w w') : w'.ownsRow base e size v n xs := ownsRow_of h (fun g hg => hb.block g (h.lt g hg).2)
section
variable {ops : Array Oper} {rest : List Oper} {o : Oper} {a : Act} {w : World} {Q : Exit → Act → World → Prop}
theorem ld93w (hw : Region.wanted o (yielded ops a.tmps) = true) (x : Operand) (ho : o.op = .load 93 x) (g : Nat) (cs : Array Value) (hx : a.eval x = .pointer (some ⟨g, 0, none⟩)) (hg : w.heap[g]? = some (.cells cs 93 (0, 0))) (hs : cs.size = 16)
    (h : wpList Tryd.prog ops Q rest (a.put o.dst (.agg cs)) w) : wpList Tryd.prog ops Q (o :: rest) a w := by
  unfold wpList
  rw [if_pos hw]
  exact .inl (wp_load_row 93 x ho g hx 93 cs (0, 0) _ hg Tryd.underlying93 rfl (by rw [size93, hs]) h)
end
theorem nilInts' (n : Nat) (W : World) (a : Option Addr) : IntsAt n W 0 0 a [] := ⟨by simp, fun h => absurd rfl h, fun h => absurd rfl h, fun k h => by simp at h⟩
theorem ints_row {base : Nat} {W : World} {g c : Nat} {l : List Int} (h : W.ownsRow base 3 1 (.slice (some ⟨g, 0, none⟩) l.length c) l.length (l.map i64)) (hl : l.length ≤ 1000) : IntsAt W.heap.size W g 0 (some ⟨g, 0, none⟩) l := by
  refine ⟨by omega, fun _ => rfl, fun _ => (h.lt g rfl).2, fun k hk => ?_⟩
  have := h.cells (g := g) rfl k (i64 l[k]) (by simp [hk])
  rw [addr_add] at this
  simpa using this
theorem bothL_succ (B : Book) (ld : Int) (k : Nat) : bothL B ld (k + 1) = bothL B ld k ++ (if sureB B 0 k ld && sureB B 1 k ld then [(k : Int)] else []) := by
  unfold bothL
  rw [List.range_succ, List.filter_append, List.map_append]
  congr 1
  by_cases h : (sureB B 0 k ld && sureB B 1 k ld) = true
  · rw [if_pos h]; simp only [List.filter_cons, List.filter_nil, if_pos h]; rfl
  · rw [if_neg h]; simp only [List.filter_cons, List.filter_nil, if_neg h]; rfl
theorem bothL_len (B : Book) (ld : Int) (k : Nat) : (bothL B ld k).length ≤ k := by
  unfold bothL
  rw [List.length_map]
  exact Nat.le_trans (List.length_filter_le _ _) (by simp)
theorem sliceF {v : Value} {base : Nat} {w : World} {l : List Int} (h : w.ownsRow base 3 1 v l.length (l.map i64)) (W : World) :
    ∃ a c, v = .slice a l.length c ∧ (Instr.slice 40 (.slice a l.length c) none (some (i64 l.length)) (some (i64 l.length))).run Tryd.prog W = .ok (.slice a l.length l.length) W := by
  have hu : Tryd.prog.underlying 40 = some (.slice (Tryd.prog.elem 40)) := by kernel_rfl
  rcases h.2 with ⟨rfl, h0⟩ | ⟨g, cap, cur, rfl, h3, h4, h5, h6, h7, h8⟩
  · have : l = [] := List.length_eq_zero_iff.1 h0
    subst this
    exact ⟨none, 0, rfl, by kernel_rfl⟩
  · refine ⟨some ⟨g, 0, none⟩, cap, rfl, ?_⟩
    have hs : (sizeOf (Tryd.prog.elem 40)).run Tryd.prog W = .ok 1 W := by kernel_rfl
    rw [run_slice_hm W 40 (some ⟨g, 0, none⟩) l.length cap hu .i64 .i64 l.length l.length (by omega) (by omega) (by omega), hs]
    simp only [Result.andThen, sliced, Nat.zero_mul, Int.toNat_natCast, Nat.sub_zero, Option.map_some, addr_add, ite_self]
def BothPost (B : Book) (ld : Int) (w : World) (e : Ending) (w' : World) : Prop := ∃ b a c, e = .returned (.tuple #[.slice a (bothR B ld).1.length c, i64 (bothR B ld).2]) ∧ Below w.heap.size w w' ∧ IntsAt w'.heap.size w' b 0 a (bothR B ld).1 ∧ (bothR B ld).1.length ≤ c
def rdBoth (i : Nat) : List Nat := match i with
  | 0 => [11] | 1 => [12] | 2 => [13] | 3 => [14] | 4 => [10] | 5 => [15] | 6 => [16] | 7 => [6] | 8 => [6] | 9 => [7] | _ => []
def pureBoth (i : Nat) : Bool := match i with
  | 2 => false | 3 => false | 7 => false | 8 => false | _ => true
def gBoth (z : Nat) (B : Book) (ta : Option Addr) (tc : Nat) (sa : Option Addr) (sc : Nat) (ld : Int) (i : Nat) (vs : List Value) (W : World) : Prop := match i with
  | 0 => vs = [.agg (bookCells B ta tc sa sc)]
  | 1 => vs = [i64 ld]
  | 2 => vs = [.bool (inB ld 0 200)]
  | 3 => AskTup z B ta tc sa sc (askE B (inB ld 0 200)) vs W
  | 4 => AskTup z B ta tc sa sc (askE B (inB ld 0 200)) vs W
  | 5 => AskAgg z B ta tc sa sc (askE B (inB ld 0 200)) vs W
  | 6 => vs = [i64 (askE B (inB ld 0 200))]
  | 7 => AskBox z vs W
  | 8 => AskVar z B ta tc sa sc (askE B (inB ld 0 200)) vs W
  | 9 => vs = [i64 (askE B (inB ld 0 200))]
  | _ => True
set_option maxRecDepth 100000 in
set_option maxHeartbeats 2000000 in
theorem Both_any (nA : Nat) (B : Book) (tb tq : Nat) (ta : Option Addr) (tc : Nat) (sb sq : Nat) (sa : Option Addr) (sc : Nat) (ld : Int) (w : World) (hn : nA ≤ w.heap.size) (hE : Env nA w B tb tq ta sb sq sa) :
    Calls Tryd.prog 35 #[bookVal B ta tc sa sc, i64 ld] w (BothPost B ld w) := by
  have hb0 : Below w.heap.size w (w.alloc (.cells (bookCells B ta tc sa sc) 30)) := (Below.refl _ w).alloc (Nat.le_refl _) _
  have hE0 := hE.below hn hb0
  have hx0 : (w.alloc (.cells (bookCells B ta tc sa sc) 30)).heap[w.heap.size]? = some (.cells (bookCells B ta tc sa sc) 30 (0, 0)) := heap_alloc_new w _
  go_enter Tryd.func35, Tryd.ntmps35
  go_wp2_with fail
  refine rg_region rdBoth pureBoth (gBoth (w.heap.size + 1) B ta tc sa sc ld) (RA (w.heap.size + 1)) (by kernel_rfl) (by kernel_rfl) (fun n => RA.drawn _ _ n) (RA.refl _) (fun _ _ _ => RA.trans) ?_ ?_ ?_
  · intro i hi vs w1 w2 hG hR
    match i, hi, hG with
    | 0, _, hG => exact hG
    | 1, _, hG => exact hG
    | 2, _, hG => exact hG
    | 3, _, hG => exact AskTup.ra hG hR
    | 4, _, hG => exact AskTup.ra hG hR
    | 5, _, hG => exact AskAgg.ra hG hR
    | 6, _, hG => exact hG
    | 7, _, hG => exact AskBox.ra hG hR
    | 8, hi, _ => exact absurd hi (Bool.eq_false_iff.1 (by kernel_rfl))
    | 9, _, hG => exact hG
    | _ + 10, _, _ => trivial
  · intro i o ho a w1 hR hF hD
    have sz : a.tmps.size = 49 := hF.size
    have sB : a.eval (.tmp 2) = .pointer (some ⟨w.heap.size, 0, none⟩) := hF.slot 2 (by kernel_rfl)
    have s1 : a.eval (.tmp 1) = i64 ld := hF.slot 1 (by kernel_rfl)
    have hz : w.heap.size + 1 ≤ w1.heap.size := by have := hR.size; simpa using this
    have hx := (hR.old w.heap.size (by omega)).trans hx0
    match i, ho, hD with
    | 0, ho, hD =>
      cases ho
      refine rgw_val (wanted_none rfl) (.agg (bookCells B ta tc sa sc)) (ex_load_row 30 _ rfl _ sB 30 _ (0, 0) _ hx Tryd.underlying30 rfl (by rw [size30]; rfl)) (RA.refl _ _) ?_
      exact congrArg (fun v => [v]) (slotOf_same a 11 _ (by omega))
    | 1, ho, hD =>
      cases ho
      refine rgw_val (wanted_none rfl) (i64 ld) (ex_move _ rfl _ s1) (RA.refl _ _) ?_
      exact congrArg (fun v => [v]) (slotOf_same a 12 _ (by omega))
    | 2, ho, hD =>
      cases ho
      have e1 := slot_tmps (List.cons.inj (hD 1 (by decide))).1
      refine rgw_call (wanted_none rfl) 77 #[i64 ld] (by simp [go_sem, e1]) rfl ?_
      refine (isLoad_any ld w1).mono ?_
      rintro e w2 ⟨rfl, rfl⟩
      exact ⟨_, rfl, RA.refl _ _, congrArg (fun v => [v]) (slotOf_same a 13 _ (by omega))⟩
    | 3, ho, hD =>
      cases ho
      have e0 := slot_tmps (List.cons.inj (hD 0 (by decide))).1
      have e1 := slot_tmps (List.cons.inj (hD 2 (by decide))).1
      have hE1 := hE0.same ⟨hR.size, fun k hk => hR.old k (by omega)⟩
      refine rgw_call (wanted_none rfl) 72 #[bookVal B ta tc sa sc, .bool (inB ld 0 200)] (by simp [go_sem, e0, e1]) rfl ?_
      refine (asked_any nA B tb tq ta tc sb sq sa sc (inB ld 0 200) w1 (by omega) hE1.gl hE1.tides hE1.sounds).mono ?_
      rintro e w2 ⟨cs, rfl, hb, hcs⟩
      exact ⟨_, rfl, RA.of_below hz hb, cs, congrArg (fun v => [v]) (slotOf_same a 14 _ (by omega)), hcs.down hz⟩
    | 4, ho, hD =>
      cases ho
      obtain ⟨cs, d3, hcs⟩ := hD 3 (by decide)
      have e3 : a.eval (.tmp 14) = _ := (List.cons.inj d3).1
      refine rgw_val (wanted_none rfl) _ (ex_move _ rfl _ e3) (RA.refl _ _) ?_
      exact ⟨cs, congrArg (fun v => [v]) (slotOf_same a 10 _ (by omega)), hcs⟩
    | 5, ho, hD =>
      cases ho
      obtain ⟨cs, d4, hcs⟩ := hD 4 (by decide)
      have e4 : a.eval (.tmp 10) = _ := (List.cons.inj d4).1
      refine rgw_val (wanted_none rfl) (.agg cs) (ex_extract _ _ rfl _ _ e4 rfl) (RA.refl _ _) ?_
      exact ⟨cs, congrArg (fun v => [v]) (slotOf_same a 15 _ (by omega)), hcs⟩
    | 6, ho, hD =>
      cases ho
      obtain ⟨cs, d4, hcs⟩ := hD 4 (by decide)
      have e4 : a.eval (.tmp 10) = _ := (List.cons.inj d4).1
      refine rgw_val (wanted_none rfl) (i64 (askE B (inB ld 0 200))) (ex_extract _ _ rfl _ _ e4 rfl) (RA.refl _ _) ?_
      exact congrArg (fun v => [v]) (slotOf_same a 16 _ (by omega))
    | 7, ho, hD =>
      cases ho
      refine rg_wp rfl rfl ?_
      refine wp_of_run (v := .pointer (some ⟨w1.heap.size, 0, none⟩)) (w' := w1.alloc (.cells zero93 93)) (by simp [go_sem]) ?_
      exact ⟨_, rfl, RA.of_below hz ((Below.refl _ _).alloc (Nat.le_refl _) _), _, _, congrArg (fun v => [v]) (slotOf_same a 6 _ (by omega)), hz, heap_alloc_new _ _, rfl⟩
    | 8, ho, hD =>
      cases ho
      obtain ⟨cs, d5, hcs⟩ := hD 5 (by decide)
      obtain ⟨b, c, d7, hzb, hb, hc⟩ := hD 7 (by decide)
      have e5 : a.eval (.tmp 15) = _ := (List.cons.inj d5).1
      have e7 : a.eval (.tmp 6) = _ := (List.cons.inj d7).1
      refine rg_wp rfl rfl ?_
      refine wp_store_row 93 _ _ rfl b cs e7 e5 93 c hb (by rw [size93, hcs.size]) (by rw [hc, hcs.size]) hcs.one ?_
      have hra := RA.store hzb hb (by rw [hc, hcs.size] : cs.size = c.size)
      exact ⟨undef, rfl, hra, b, cs, d7, hzb, setRow_heap _ _ _ _ _ _ hb, hcs.ra hra⟩
    | 9, ho, hD =>
      cases ho
      have d6 : a.eval (.tmp 16) = i64 (askE B (inB ld 0 200)) := (List.cons.inj (hD 6 (by decide))).1
      refine rgw_val (wanted_none rfl) _ (ex_assign _ rfl _ d6) (RA.refl _ _) ?_
      exact congrArg (fun v => [v]) (slotOf_same a 7 _ (by omega))
    | _ + 10, ho, _ => cases ho
  · intro a w1 hR hF hA
    have f1 : slotOf a 1 = i64 ld := hF.slot 1 (by kernel_rfl)
    have f2 : slotOf a 2 = .pointer (some ⟨w.heap.size, 0, none⟩) := hF.slot 2 (by kernel_rfl)
    have f4 : slotOf a 4 = .slice none 0 0 := hF.slot 4 (by kernel_rfl)
    have f5 : slotOf a 5 = i64 0 := hF.slot 5 (by kernel_rfl)
    obtain ⟨b, cs, d8, hzb, hb, hcs⟩ := hA 8 (by decide)
    have f6 : slotOf a 6 = .pointer (some ⟨b, 0, none⟩) := (List.cons.inj d8).1
    have f7 : slotOf a 7 = i64 (askE B (inB ld 0 200)) := (List.cons.inj (hA 9 (by decide))).1
    rw [act_eta a 49 hF.size hF.defers]
    simp only [show List.range 49 = [0, 1, 2, 3, 4, 5, 6, 7, 8, 9, 10, 11, 12, 13, 14, 15, 16, 17, 18, 19, 20, 21, 22, 23, 24, 25, 26, 27, 28, 29, 30, 31, 32, 33, 34, 35, 36, 37, 38, 39, 40, 41, 42, 43, 44, 45, 46, 47, 48] from rfl, List.map_cons, List.map_nil, f1, f2, f4, f5, f6, f7]
    clear hA hF d8 f1 f2 f4 f5 f6 f7
    have hb1 : Below w.heap.size w w1 := hb0.trans (hR.below.mono (by omega))
    have hx1 := (hR.old w.heap.size (by omega)).trans hx0
    have hxc := cells_of hx1
    have hxl := (Array.getElem?_eq_some_iff.1 hx1).1
    have hT1 : SpansAt w1.heap.size w1 tb tq ta B.tides := (hE0.same ⟨hR.size, fun k hk => hR.old k (by omega)⟩).tides.up (by omega)
    by_cases he : askE B (inB ld 0 200) = 0
    · obtain ⟨his, m, ca, cc, cb, hgd⟩ := Good.of he hcs hb
      have hq : bothR B ld = (bothL B ld B.tides.length, 0) := by unfold bothR; rw [if_pos he]
      have hq := Lib.hid hq
      rw [he]
      clear he hcs
      simp only [inB_iff] at his
      obtain ⟨hl1, hl2⟩ := his
      have h24 := hgd.vb.h24
      go_wp2_with fail
      go_loopw [23, 8] (fun i v wr => ∃ k : Nat, k ≤ B.tides.length ∧ i = .int .i64 k ∧ wr.ownsRow w1.heap.size 3 1 v (bothL B ld k).length ((bothL B ld k).map i64) ∧ Below w1.heap.size w1 wr) (fun i _ _ => B.tides.length - (intOf i).toNat)
      case atStart => exact ⟨0, Nat.zero_le _, rfl, World.ownsRow_nil _ _ _ _, Below.refl _ _⟩
      case round =>
        obtain ⟨k, hk, rfl, hrow, hbw⟩ := hrel
        obtain ⟨hbx, _, _⟩ := hgd.below hbw
        by_cases hlt : k < B.tides.length
        · have hsucc := Lib.hid (bothL_succ B ld k)
          have M0 := fun W hW => must_c hgd hT1 k hlt 0 ld (.inl rfl) (by omega) (by omega) W hW
          have M1 := fun W hW => must_c hgd hT1 k hlt 1 ld (.inr rfl) (by omega) (by omega) W hW
          have hblen := bothL_len B ld k
          cases hs0 : sureB B 0 k ld
          · have hs0 := Lib.hid hs0
            go_wp2_with (first | (refine ld93 rfl _ rfl _ _ rfl hbx rfl ?_) | (refine ld93w rfl _ rfl _ _ rfl hbx2 rfl ?_) | (go_at_call 79; (with_reducible refine (M0 wr hbw).mono ?_); rintro e w2 ⟨rfl, hb2⟩; rw [hs0.out]; have hbw2 := hbw.trans (hb2.mono hbw.size); have hbx2 := (hgd.below hbw2).1))
            go_roundw
            case rel => exact ⟨k + 1, by omega, by go_num, by rw [hsucc.out, hs0.out]; simpa using ownsRow_below hrow hb2, hbw2⟩
            case measure => simp [intOf]; omega
          · have hs0 := Lib.hid hs0
            cases hs1 : sureB B 1 k ld
            · have hs1 := Lib.hid hs1
              go_wp2_with (first | (refine ld93 rfl _ rfl _ _ rfl hbx rfl ?_) | (refine ld93w rfl _ rfl _ _ rfl hbx2 rfl ?_) | (go_at_call 79; (with_reducible refine (M0 wr hbw).mono ?_); rintro e w2 ⟨rfl, hb2⟩; rw [hs0.out]; have hbw2 := hbw.trans (hb2.mono hbw.size); have hbx2 := (hgd.below hbw2).1) | (go_at_call 79; (with_reducible refine (M1 w2 hbw2).mono ?_); rintro e w3 ⟨rfl, hb3⟩; rw [hs1.out]; have hbw3 := hbw2.trans (hb3.mono hbw2.size)))
              go_roundw
              case rel => exact ⟨k + 1, by omega, by go_num, by rw [hsucc.out, hs1.out]; simpa using ownsRow_below (ownsRow_below hrow hb2) hb3, hbw3⟩
              case measure => simp [intOf]; omega
            · have hs1 := Lib.hid hs1
              obtain ⟨i0, hi, hz0, hz1', hz2⟩ := info_parts info3
              go_wp2_with (first | (refine ld93 rfl _ rfl _ _ rfl hbx rfl ?_) | (refine ld93w rfl _ rfl _ _ rfl hbx2 rfl ?_) | (go_at_call 79; (with_reducible refine (M0 wr hbw).mono ?_); rintro e w2 ⟨rfl, hb2⟩; rw [hs0.out]; have hbw2 := hbw.trans (hb2.mono hbw.size); have hbx2 := (hgd.below hbw2).1) | (go_at_call 79; (with_reducible refine (M1 w2 hbw2).mono ?_); rintro e w3 ⟨rfl, hb3⟩; rw [hs1.out]; have hbw3 := hbw2.trans (hb3.mono hbw2.size); have hrow3 := ownsRow_below (ownsRow_below hrow hb2) hb3; have hw3 := hbw3.size) | (at_builtin; refine wpList_append_own _ rfl _ _ 40 rfl w1.heap.size 3 i0 (i64 0) 1 8 Tryd.underlying40 hi hz0 hz1' hz2 rfl (by decide) _ _ _ rfl (hrow3.alloc _) ⟨w3.heap.size, 0, none⟩ 1 1 [i64 k] rfl rfl (cell_one_new _ _ _) (by simp [Value.oneCell']) (by unfold maxLen; omega) (by omega) (by simp; omega) ?_; intro v' w4 hown' hgrow hnil))
              have hbw4 : Below w1.heap.size w1 w4 := (hbw3.alloc hw3 _).grown hgrow (by simp; omega) (fun j e => (hrow3.lt j e).1)
              go_roundw
              case rel => exact ⟨k + 1, by omega, by go_num, by rw [hsucc.out, hs0.out, hs1.out]; simpa using hown', hbw4⟩
              case measure => simp [intOf]; omega
        · have hke : k = B.tides.length := by omega
          have hfin : Hid (bothR B ld = (bothL B ld k, 0)) := by
            show _ = _
            rw [hq.out, hke]
          have hke' : ¬ (k : Int) < (B.tides.length : Int) := by omega
          clear hke
          have hblen := bothL_len B ld k
          obtain ⟨a', c', rfl, hsl⟩ := sliceF hrow wr
          obtain ⟨b2, o2, a2, c2, heq, hI, _⟩ := ints_of_row hrow (by omega)
          have ho2 : Hid (∃ b3, IntsAt wr.heap.size wr b3 0 a' (bothL B ld k)) := by
            show ∃ _, _
            rcases hrow.2 with ⟨h1, h2⟩ | ⟨g, cap, cur, h1, h3, h4, h5, h6, h7, h8⟩
            · have h0 : bothL B ld k = [] := List.length_eq_zero_iff.1 h2
              rw [h0]
              exact ⟨0, nilInts' _ _ _⟩
            · obtain ⟨rfl, rfl⟩ : a' = some ⟨g, 0, none⟩ ∧ c' = cap := by simpa using h1
              exact ⟨g, ints_row hrow (by omega)⟩
          clear heq hI
          go_wp2_with fail
          refine bodyPost_ret (results_tmp2 rfl _ _) rfl ?_
          obtain ⟨b3, hI3⟩ := ho2.out
          exact ⟨b3, a', (bothL B ld k).length, by rw [hfin.out]; rfl, hb1.trans (hbw.mono hb1.size), by rw [hfin.out]; exact hI3, by rw [hfin.out]; exact Nat.le_refl _⟩
    · have hfl : Hid (bothR B ld = ([], askE B (inB ld 0 200))) := Lib.hid (by unfold bothR; rw [if_neg he])
      have hq : (askE B (inB ld 0 200) != 0) = true := by simp [he]
      clear he
      generalize askE B (inB ld 0 200) = err at *
      go_wp2_with fail
      refine bodyPost_ret (results_tmp2 rfl _ _) rfl ?_
      exact ⟨0, none, 0, by rw [hfl.out]; rfl, hb1, by rw [hfl.out]; exact nilInts' _ _ _, by rw [hfl.out]; exact Nat.le_refl _⟩
end Go.Proofs.YtkbmpkdflgimmaaDoor
/- The contract of Height. -/
namespace Go.Proofs.YtkbmpkdflgimmaaDoor
open Go.RowKit Go.Shelf

attribute [local go_sem] Oper.semAt_some
def HeightPost (B : Book) (hr : Int) (w : World) (e : Ending) (w' : World) : Prop := e = .returned (.tuple #[.agg #[i64 (heightR B hr).1, i64 (heightR B hr).2.1], i64 (heightR B hr).2.2]) ∧ Below w.heap.size w w'
/-- All is kept but slices of whole numbers, and boxes of such; below z all is kept. -/
structure HK (z : Nat) (W W' : World) : Prop where
  os : W'.os = W.os
  tape : W'.tape = W.tape
  output : W'.output = W.output
  size : W.heap.size ≤ W'.heap.size
  old : ∀ k, k < z → W'.heap[k]? = W.heap[k]?
  keep : ∀ (k : Nat) o, W.heap[k]? = some o → (∀ c, o ≠ .cells c 3 (0, 0)) → (∀ c, o ≠ .cells c 40 (0, 0)) → W'.heap[k]? = some o
theorem HK.refl (z : Nat) (W : World) : HK z W W := ⟨rfl, rfl, rfl, Nat.le_refl _, fun _ _ => rfl, fun _ _ h _ _ => h⟩
theorem HK.trans {z : Nat} {A B C : World} (h : HK z A B) (k : HK z B C) : HK z A C :=
  ⟨k.os.trans h.os, k.tape.trans h.tape, k.output.trans h.output, Nat.le_trans h.size k.size, fun i hi => (k.old i hi).trans (h.old i hi), fun i o ho h3 h40 => k.keep i o (h.keep i o ho h3 h40) h3 h40⟩
theorem HK.below {z : Nat} {W W' : World} (h : HK z W W') : Below z W W' := ⟨h.os, h.tape, h.output, h.size, h.old⟩
/-- A box lb that holds a slice of whole numbers of its own. -/
def HL (lb bad : Nat) (W : World) (l : List Int) : Prop := ∃ v, W.heap[lb]? = some (.cells #[v] 40 (0, 0)) ∧ W.ownsRow (lb + 1) 3 1 v l.length (l.map i64) ∧ v.ownBlock ≠ some bad
theorem HL.later {lb bad bad' : Nat} {W W' : World} {l : List Int} (h : HL lb bad W l) (hb : ∀ (k : Nat) (o : Obj), W.heap[k]? = some o → o.isCells = true → W'.heap[k]? = some o) (hbad : W.heap.size ≤ bad') : HL lb bad' W' l := by
  obtain ⟨v, h1, h2, h3⟩ := h
  refine ⟨v, hb _ _ h1 rfl, ownsRow_of h2 (fun g hg => ?_), fun e => ?_⟩
  · obtain ⟨cur, hc⟩ := ownsRow_obj h2 g hg
    rw [hc, hb _ _ hc rfl]
  · have := (h2.lt _ e).2
    omega
/-- One element more, and the slice stored back. -/
structure HStep (lb : Nat) (v v' : Value) (W W' : World) : Prop where
  os : W'.os = W.os
  tape : W'.tape = W.tape
  output : W'.output = W.output
  size : W.heap.size < W'.heap.size
  keep : ∀ (k : Nat) o, W.heap[k]? = some o → k ≠ lb → v.ownBlock ≠ some k → W'.heap[k]? = some o
  at_ : v'.ownBlock = v.ownBlock ∨ v'.ownBlock = some (W.heap.size + 1)
theorem HL.step {lb : Nat} {W w3 : World} {v v' : Value} {l : List Int} {x : Int} {c : Value} {t : TypeId} (hb : W.heap[lb]? = some (.cells #[v] 40 (0, 0))) (_hrow : W.ownsRow (lb + 1) 3 1 v l.length (l.map i64))
    (hown' : w3.ownsRow (lb + 1) 3 1 v' (l.length + 1) (l.map i64 ++ [i64 x])) (hgrow : (W.alloc (.cells #[c] t)).grownBy w3 v.ownBlock) (hl3 : w3.heap[lb]? = some (.cells #[v] 40 (0, 0))) (hat : v'.ownBlock = v.ownBlock ∨ v'.ownBlock = some (W.alloc (.cells #[c] t)).heap.size) :
    HStep lb v v' W (w3.setCell ⟨lb, 0, none⟩ v') ∧ (w3.setCell ⟨lb, 0, none⟩ v').heap[lb]? = some (.cells #[v'] 40 (0, 0)) ∧ (w3.setCell ⟨lb, 0, none⟩ v').ownsRow (lb + 1) 3 1 v' (l ++ [x]).length ((l ++ [x]).map i64) := by
  have hsz := hgrow.size
  have hlb := (Array.getElem?_eq_some_iff.1 hb).1
  refine ⟨⟨hgrow.os, hgrow.tape, hgrow.output, by simp [World.setCell] at hsz ⊢; omega, fun k o hk h1 h2 => ?_, by simpa using hat⟩, by simpa using setCell_at hl3 0 v', ?_⟩
  · have hkl := (Array.getElem?_eq_some_iff.1 hk).1
    rw [Below.heap_setCell _ _ _ _ (by exact h1), hgrow.block k (by simp; omega) (fun e => h2 e.symm), Below.heap_alloc _ _ _ hkl]
    exact hk
  · have : w3.ownsRow (lb + 1) 3 1 v' (l ++ [x]).length ((l ++ [x]).map i64) := by simpa using hown'
    exact ownsRow_of this (fun g hg => Below.heap_setCell _ _ _ _ (by have := (this.lt g hg).1; show g ≠ lb; omega))
theorem HStep.hk {lb z : Nat} {v v' : Value} {W W' : World} {l : List Int} (h : HStep lb v v' W W') (hz : z ≤ lb) (hb : W.heap[lb]? = some (.cells #[v] 40 (0, 0))) (hrow : W.ownsRow (lb + 1) 3 1 v l.length (l.map i64)) : HK z W W' := by
  have hlb := (Array.getElem?_eq_some_iff.1 hb).1
  refine ⟨h.os, h.tape, h.output, Nat.le_of_lt h.size, fun k hk => ?_, fun k o hk h3 h40 => h.keep k o hk (fun e => ?_) (fun e => ?_)⟩
  · have hkl : k < W.heap.size := by omega
    rw [Array.getElem?_eq_getElem hkl]
    exact h.keep k _ (Array.getElem?_eq_getElem hkl) (by omega) (fun e => by have := (hrow.lt k e).1; omega)
  · subst e; rw [hb] at hk; cases hk; exact h40 _ rfl
  · obtain ⟨cur, hc⟩ := ownsRow_obj hrow k e
    rw [hc] at hk; cases hk; exact h3 _ rfl
theorem HStep.kf {lb C : Nat} {v v' : Value} {W W' : World} {l : List Int} (h : HStep lb v v' W W') (hb : W.heap[lb]? = some (.cells #[v] 40 (0, 0))) (hrow : W.ownsRow (lb + 1) 3 1 v l.length (l.map i64)) : KeepsFrom C W W' := by
  refine ⟨Nat.le_of_lt h.size, fun k o _ hk ho => h.keep k o hk (fun e => ?_) (fun e => ?_)⟩
  · subst e; rw [hb] at hk; cases hk; cases ho
  · obtain ⟨cur, hc⟩ := ownsRow_obj hrow k e
    rw [hc] at hk; cases hk; cases ho
theorem HStep.kp {lb nA bH : Nat} {v v' : Value} {W W' : World} {l : List Int} (h : HStep lb v v' W W') (hz : nA ≤ lb) (hbH : bH ≠ lb) (hv : v.ownBlock ≠ some bH) (hb : W.heap[lb]? = some (.cells #[v] 40 (0, 0))) (hrow : W.ownsRow (lb + 1) 3 1 v l.length (l.map i64)) : Kp nA bH W W' := by
  refine ⟨Nat.le_of_lt h.size, (h.hk hz hb hrow).old, fun k c t z hk ht => h.keep k _ hk (fun e => ?_) (fun e => ?_)⟩
  · subst e
    rw [hb] at hk
    cases hk
    rcases ht with ht | ht
    · exact hbH ht.symm
    · exact ht.2 rfl
  · obtain ⟨cur, hc⟩ := ownsRow_obj hrow k e
    rw [hc] at hk
    cases hk
    rcases ht with ht | ht
    · exact hv (by rw [← ht]; exact e)
    · exact ht.1 rfl
theorem HI_own {β : Type} (z lb bad : Nat) (hz : z ≤ lb) (w0 : World) (hlb : lb < w0.heap.size) (L : β → List Int) : OwnFrom w0.heap.size (fun (s : β) W => HK z w0 W ∧ HL lb bad W (L s)) := by
  rintro s W W' row ⟨h1, v, h2, h3, h4⟩ hg hr
  have hne : ∀ k, k < w0.heap.size → row ≠ some k := fun k hk e => by have := (hr k e).1; omega
  have hcell : ∀ (k : Nat) o, W.heap[k]? = some o → o.isCells = true → W'.heap[k]? = some o := fun k o hk ho => by
    refine (hg.block k (Array.getElem?_eq_some_iff.1 hk).1 (fun e => ?_)).trans hk
    obtain ⟨_, o', ho', hc'⟩ := hr k e.symm
    rw [hk] at ho'
    cases ho'
    rw [ho] at hc'
    cases hc'
  refine ⟨⟨hg.os.trans h1.os, hg.tape.trans h1.tape, hg.output.trans h1.output, Nat.le_trans h1.size hg.size, fun k hk => (hg.block k (by have := h1.size; omega) (fun e => hne k (by omega) e.symm)).trans (h1.old k hk), fun k o hk h3' h40 => ?_⟩, v, hcell _ _ h2 rfl, ownsRow_of h3 (fun g hg' => ?_), h4⟩
  · have hkl := (Array.getElem?_eq_some_iff.1 hk).1
    exact (hg.block k (by have := h1.size; omega) (fun e => hne k hkl e.symm)).trans (h1.keep k o hk h3' h40)
  · obtain ⟨cur, hc⟩ := ownsRow_obj h3 g hg'
    rw [hc, hcell _ _ hc rfl]
/-- The heights with the first k bottoms. -/
def preH (B : Book) (h : Int) (k : Nat) : List Int := ((cansB B).take k).flatMap fun f => hts B h f
theorem preH_succ (B : Book) (h : Int) (k : Nat) (hk : k < (cansB B).length) : preH B h (k + 1) = preH B h k ++ hts B h (cansB B)[k] := by
  unfold preH
  rw [List.take_succ_eq_append_getElem hk, List.flatMap_append]
  simp
theorem hList_len {t : Span} (D : Int → Int → List Int) (hr f0 f1 : Int) (h1 : -100 ≤ t.lo) (h2 : t.hi ≤ 100) : (hList t D hr f0 f1).length ≤ 201 := by
  unfold hList preL
  refine Nat.le_trans (List.length_filter_le _ _) ?_
  simp
  omega
theorem hts_len {B : Book} (hV : VB B) (h : Nat) (hh : h < B.tides.length) (f : Int × Int) : (hts B h f).length ≤ 201 := by
  unfold hts
  rw [tideAt_nat hh]
  exact hList_len _ _ _ _ (hV.hour h hh).lo (hV.hour h hh).hi
theorem preH_len {B : Book} (hV : VB B) (h : Nat) (hh : h < B.tides.length) (k : Nat) (hk : k ≤ (cansB B).length) : (preH B h k).length ≤ 201 * k := by
  induction k with
  | zero => simp [preH]
  | succ k ih =>
    rw [preH_succ B h k hk, List.length_append]
    have := ih (by omega)
    have := hts_len hV h hh (cansB B)[k]
    omega
theorem heightL_pos {B : Book} (h : Nat) (hh : h < B.tides.length) (hp : 0 < (cansB B).length) : 0 < (heightL B h).length := by
  obtain ⟨f, l, hfl⟩ : ∃ f l, cansB B = f :: l := by
    cases hc : cansB B with
    | nil => simp [hc] at hp
    | cons f l => exact ⟨f, l, rfl⟩
  have hm : f ∈ cansB B := by rw [hfl]; exact List.mem_cons_self ..
  obtain ⟨x, hx⟩ := (mem_cansB.1 hm).2.2 h hh
  have : x ∈ heightL B h := by
    unfold heightL
    rw [List.mem_flatMap]
    exact ⟨f, hm, mem_hts.2 hx⟩
  exact List.length_pos_of_mem this
theorem ints_of_row' {base : Nat} {W : World} {v : Value} {l : List Int} (h : W.ownsRow base 3 1 v l.length (l.map i64)) (hl : l.length * 8 ≤ 140737488351232) : ∃ b o a c, v = .slice a l.length c ∧ IntsAt W.heap.size W b o a l := by
  rcases h.2 with ⟨rfl, h0⟩ | ⟨g, cap, cur, rfl, h3, h4, h5, h6, h7, h8⟩
  · have : l = [] := List.length_eq_zero_iff.1 h0
    subst this
    exact ⟨0, 0, none, 0, rfl, ⟨by simp, fun h => absurd rfl h, fun h => absurd rfl h, fun k h => by simp at h⟩⟩
  · refine ⟨g, 0, some ⟨g, 0, none⟩, cap, rfl, ⟨hl, fun _ => rfl, fun _ => (Array.getElem?_eq_some_iff.1 h4).1, fun k hk => ?_⟩⟩
    have := h.cells (g := g) rfl k (i64 l[k]) (by simp [hk])
    rw [addr_add] at this
    simpa using this
def rdHeight (i : Nat) : List Nat := match i with
  | 0 => [13] | 1 => [14] | 2 => [15] | 3 => [16] | 4 => [17] | 5 => [12] | 6 => [18] | 7 => [19] | 8 => [6] | 9 => [6] | 10 => [7] | _ => []
def pureHeight (i : Nat) : Bool := match i with
  | 3 => false | 4 => false | 8 => false | 9 => false | _ => true
def gHeight (z : Nat) (B : Book) (ta : Option Addr) (tc : Nat) (sa : Option Addr) (sc : Nat) (hr : Int) (i : Nat) (vs : List Value) (W : World) : Prop := match i with
  | 0 => vs = [.agg (bookCells B ta tc sa sc)]
  | 1 => vs = [.agg (bookCells B ta tc sa sc)]
  | 2 => vs = [i64 hr]
  | 3 => vs = [.bool (hourB B hr)]
  | 4 => AskTup z B ta tc sa sc (askE B (hourB B hr)) vs W
  | 5 => AskTup z B ta tc sa sc (askE B (hourB B hr)) vs W
  | 6 => AskAgg z B ta tc sa sc (askE B (hourB B hr)) vs W
  | 7 => vs = [i64 (askE B (hourB B hr))]
  | 8 => AskBox z vs W
  | 9 => AskVar z B ta tc sa sc (askE B (hourB B hr)) vs W
  | 10 => vs = [i64 (askE B (hourB B hr))]
  | _ => True
set_option maxRecDepth 100000 in
set_option maxHeartbeats 4000000 in
theorem Height_in (n : Nat) (hn3 : 3 ≤ n) (nA : Nat) (B : Book) (tb tq : Nat) (ta : Option Addr) (tc : Nat) (sb sq : Nat) (sa : Option Addr) (sc : Nat) (hr : Int) (w : World) (hn : nA ≤ w.heap.size) (hE : Env nA w B tb tq ta sb sq sa) :
    CallsIn Fence.wide n Tryd.prog 27 #[bookVal B ta tc sa sc, i64 hr] w (HeightPost B hr w) := by
  have hb0 : Below w.heap.size w ((w.alloc (.cells (bookCells B ta tc sa sc) 30)).alloc (.cells #[i64 0, i64 0] 24)) := ((Below.refl _ w).alloc (Nat.le_refl _) _).alloc (by simp) _
  have hE0 := hE.below hn hb0
  have hx0 : ((w.alloc (.cells (bookCells B ta tc sa sc) 30)).alloc (.cells #[i64 0, i64 0] 24)).heap[w.heap.size]? = some (.cells (bookCells B ta tc sa sc) 30 (0, 0)) := (Below.heap_alloc _ _ _ (by simp)).trans (heap_alloc_new w _)
  refine callsIn_of_wp_marks Tryd.func27 rfl trivial ?_ rfl
  simp only [Tryd.ntmps27, List.size_toArray, List.length_cons, List.length_nil, Nat.reduceAdd, Nat.reduceSub, Array.replicate_succ, Array.replicate_zero, List.push_toArray, List.append_toArray, List.nil_append, List.cons_append]
  have h1 : 1 ≤ n := by omega
  gi_wp2_with fail
  refine wpIn_wide.2 (rg_region rdHeight pureHeight (gHeight (w.heap.size + 2) B ta tc sa sc hr) (RA (w.heap.size + 2)) (by kernel_rfl) (by kernel_rfl) (fun n => RA.drawn _ _ n) (RA.refl _) (fun _ _ _ => RA.trans) ?_ ?_ ?_)
  · intro i hi vs w1 w2 hG hR
    match i, hi, hG with
    | 0, _, hG => exact hG
    | 1, _, hG => exact hG
    | 2, _, hG => exact hG
    | 3, _, hG => exact hG
    | 4, _, hG => exact AskTup.ra hG hR
    | 5, _, hG => exact AskTup.ra hG hR
    | 6, _, hG => exact AskAgg.ra hG hR
    | 7, _, hG => exact hG
    | 8, _, hG => exact AskBox.ra hG hR
    | 9, hi, _ => exact absurd hi (Bool.eq_false_iff.1 (by kernel_rfl))
    | 10, _, hG => exact hG
    | _ + 11, _, _ => trivial
  · intro i o ho a w1 hR hF hD
    have sz : a.tmps.size = 43 := hF.size
    have sB : a.eval (.tmp 2) = .pointer (some ⟨w.heap.size, 0, none⟩) := hF.slot 2 (by kernel_rfl)
    have s1 : a.eval (.tmp 1) = i64 hr := hF.slot 1 (by kernel_rfl)
    have hz : w.heap.size + 2 ≤ w1.heap.size := by have := hR.size; simpa using this
    have hx := (hR.old w.heap.size (by omega)).trans hx0
    match i, ho, hD with
    | 0, ho, hD =>
      cases ho
      refine rgw_val (wanted_none rfl) (.agg (bookCells B ta tc sa sc)) (ex_load_row 30 _ rfl _ sB 30 _ (0, 0) _ hx Tryd.underlying30 rfl (by rw [size30]; rfl)) (RA.refl _ _) ?_
      exact congrArg (fun v => [v]) (slotOf_same a 13 _ (by omega))
    | 1, ho, hD =>
      cases ho
      refine rgw_val (wanted_none rfl) (.agg (bookCells B ta tc sa sc)) (ex_load_row 30 _ rfl _ sB 30 _ (0, 0) _ hx Tryd.underlying30 rfl (by rw [size30]; rfl)) (RA.refl _ _) ?_
      exact congrArg (fun v => [v]) (slotOf_same a 14 _ (by omega))
    | 2, ho, hD =>
      cases ho
      refine rgw_val (wanted_none rfl) (i64 hr) (ex_move _ rfl _ s1) (RA.refl _ _) ?_
      exact congrArg (fun v => [v]) (slotOf_same a 15 _ (by omega))
    | 3, ho, hD =>
      cases ho
      have e0 := slot_tmps (List.cons.inj (hD 1 (by decide))).1
      have e1 := slot_tmps (List.cons.inj (hD 2 (by decide))).1
      refine rgw_call (wanted_none rfl) 73 #[bookVal B ta tc sa sc, i64 hr] (by simp [go_sem, e0, e1]) rfl ?_
      refine (isHour_any B ta tc sa sc hr w1 hE.tides.len).mono ?_
      rintro e w2 ⟨rfl, hb⟩
      exact ⟨_, rfl, RA.of_below hz hb, congrArg (fun v => [v]) (slotOf_same a 16 _ (by omega))⟩
    | 4, ho, hD =>
      cases ho
      have e0 := slot_tmps (List.cons.inj (hD 0 (by decide))).1
      have e1 := slot_tmps (List.cons.inj (hD 3 (by decide))).1
      have hE1 := hE0.same ⟨hR.size, fun k hk => hR.old k (by omega)⟩
      refine rgw_call (wanted_none rfl) 72 #[bookVal B ta tc sa sc, .bool (hourB B hr)] (by simp [go_sem, e0, e1]) rfl ?_
      refine (asked_any nA B tb tq ta tc sb sq sa sc (hourB B hr) w1 (by omega) hE1.gl hE1.tides hE1.sounds).mono ?_
      rintro e w2 ⟨cs, rfl, hb, hcs⟩
      exact ⟨_, rfl, RA.of_below hz hb, cs, congrArg (fun v => [v]) (slotOf_same a 17 _ (by omega)), hcs.down hz⟩
    | 5, ho, hD =>
      cases ho
      obtain ⟨cs, d3, hcs⟩ := hD 4 (by decide)
      have e3 : a.eval (.tmp 17) = _ := (List.cons.inj d3).1
      refine rgw_val (wanted_none rfl) _ (ex_move _ rfl _ e3) (RA.refl _ _) ?_
      exact ⟨cs, congrArg (fun v => [v]) (slotOf_same a 12 _ (by omega)), hcs⟩
    | 6, ho, hD =>
      cases ho
      obtain ⟨cs, d4, hcs⟩ := hD 5 (by decide)
      have e4 : a.eval (.tmp 12) = _ := (List.cons.inj d4).1
      refine rgw_val (wanted_none rfl) (.agg cs) (ex_extract _ _ rfl _ _ e4 rfl) (RA.refl _ _) ?_
      exact ⟨cs, congrArg (fun v => [v]) (slotOf_same a 18 _ (by omega)), hcs⟩
    | 7, ho, hD =>
      cases ho
      obtain ⟨cs, d4, hcs⟩ := hD 5 (by decide)
      have e4 : a.eval (.tmp 12) = _ := (List.cons.inj d4).1
      refine rgw_val (wanted_none rfl) (i64 (askE B (hourB B hr))) (ex_extract _ _ rfl _ _ e4 rfl) (RA.refl _ _) ?_
      exact congrArg (fun v => [v]) (slotOf_same a 19 _ (by omega))
    | 8, ho, hD =>
      cases ho
      refine rg_wp rfl rfl ?_
      refine wp_of_run (v := .pointer (some ⟨w1.heap.size, 0, none⟩)) (w' := w1.alloc (.cells zero93 93)) (by simp [go_sem]) ?_
      exact ⟨_, rfl, RA.of_below hz ((Below.refl _ _).alloc (Nat.le_refl _) _), _, _, congrArg (fun v => [v]) (slotOf_same a 6 _ (by omega)), hz, heap_alloc_new _ _, rfl⟩
    | 9, ho, hD =>
      cases ho
      obtain ⟨cs, d5, hcs⟩ := hD 6 (by decide)
      obtain ⟨b, c, d7, hzb, hb, hc⟩ := hD 8 (by decide)
      have e5 : a.eval (.tmp 18) = _ := (List.cons.inj d5).1
      have e7 : a.eval (.tmp 6) = _ := (List.cons.inj d7).1
      refine rg_wp rfl rfl ?_
      refine wp_store_row 93 _ _ rfl b cs e7 e5 93 c hb (by rw [size93, hcs.size]) (by rw [hc, hcs.size]) hcs.one ?_
      have hra := RA.store hzb hb (by rw [hc, hcs.size] : cs.size = c.size)
      exact ⟨undef, rfl, hra, b, cs, d7, hzb, setRow_heap _ _ _ _ _ _ hb, hcs.ra hra⟩
    | 10, ho, hD =>
      cases ho
      have d6 : a.eval (.tmp 19) = i64 (askE B (hourB B hr)) := (List.cons.inj (hD 7 (by decide))).1
      refine rgw_val (wanted_none rfl) _ (ex_assign _ rfl _ d6) (RA.refl _ _) ?_
      exact congrArg (fun v => [v]) (slotOf_same a 7 _ (by omega))
    | _ + 11, ho, _ => cases ho
  · intro a w1 hR hF hA
    have f1 : slotOf a 1 = i64 hr := hF.slot 1 (by kernel_rfl)
    have f2 : slotOf a 2 = .pointer (some ⟨w.heap.size, 0, none⟩) := hF.slot 2 (by kernel_rfl)
    have f4 : slotOf a 4 = .pointer (some ⟨w.heap.size + 1, 0, none⟩) := hF.slot 4 (by kernel_rfl)
    have f5 : slotOf a 5 = i64 0 := hF.slot 5 (by kernel_rfl)
    obtain ⟨b, cs, d8, hzb, hb, hcs⟩ := hA 9 (by decide)
    have f6 : slotOf a 6 = .pointer (some ⟨b, 0, none⟩) := (List.cons.inj d8).1
    have f7 : slotOf a 7 = i64 (askE B (hourB B hr)) := (List.cons.inj (hA 10 (by decide))).1
    rw [act_eta a 43 hF.size hF.defers]
    simp only [show List.range 43 = [0, 1, 2, 3, 4, 5, 6, 7, 8, 9, 10, 11, 12, 13, 14, 15, 16, 17, 18, 19, 20, 21, 22, 23, 24, 25, 26, 27, 28, 29, 30, 31, 32, 33, 34, 35, 36, 37, 38, 39, 40, 41, 42] from rfl, List.map_cons, List.map_nil, f1, f2, f4, f5, f6, f7]
    clear hA hF d8 f1 f2 f4 f5 f6 f7
    have hb1 : Below w.heap.size w w1 := hb0.trans (hR.below.mono (by omega))
    have hx1 := (hR.old w.heap.size (by omega)).trans hx0
    have hxc := cells_of hx1
    have hxl := (Array.getElem?_eq_some_iff.1 hx1).1
    have hT1 : SpansAt w1.heap.size w1 tb tq ta B.tides := (hE0.same ⟨hR.size, fun k hk => hR.old k (by omega)⟩).tides.up (by omega)
    have hz1 : w1.heap[w.heap.size + 1]? = some (.cells #[i64 0, i64 0] 24 (0, 0)) := (hR.old _ (by omega)).trans (heap_alloc2_new w _ _)
    by_cases he : askE B (hourB B hr) = 0
    · obtain ⟨his, m, ca, cc, cb, hgd⟩ := Good.of he hcs hb
      have hq : heightR B hr = (minL (heightL B hr), maxL ((heightL B hr).head?.getD 0) (heightL B hr), 0) := by unfold heightR; rw [if_pos he]
      have hq := Lib.hid hq
      rw [he]
      clear he hcs
      simp only [hourB, inB_iff] at his
      obtain ⟨hh1, hh2⟩ := his
      obtain ⟨h, rfl⟩ : ∃ h : Nat, hr = h := ⟨hr.toNat, by omega⟩
      have hh : h < B.tides.length := by omega
      have hcl := hgd.vb.len
      have hbc := cells_of hgd.box
      have hbl := (Array.getElem?_eq_some_iff.1 hgd.box).1
      gi_wp2_with fail
      clear hbc hxc
      have hB0 : Below w1.heap.size w1 (w1.alloc (.cells #[.slice none 0 0] 40)) := (Below.refl _ w1).alloc (Nat.le_refl _) _
      have hL0 : HL w1.heap.size 0 (w1.alloc (.cells #[.slice none 0 0] 40)) (preH B h 0) := ⟨_, heap_alloc_new _ _, World.ownsRow_nil _ _ _ _, by simp [Value.ownBlock]⟩
      refine wpIn_loop (fun a' wr => ∃ (k : Nat) (Ds : List Nat) (v10 v28 v29 v30 v31 v32 v33 v34 v40 : Value), k ≤ (cansB B).length ∧ a' = { tmps := #[slotOf a 0, i64 h, .pointer (some ⟨w.heap.size, 0, none⟩), slotOf a 3, .pointer (some ⟨w.heap.size + 1, 0, none⟩), i64 0, .pointer (some ⟨b, 0, none⟩), i64 0, .pointer (some ⟨w1.heap.size, 0, none⟩), slotOf a 9, v10, slotOf a 11, slotOf a 12, slotOf a 13, slotOf a 14, slotOf a 15, slotOf a 16, slotOf a 17, slotOf a 18, slotOf a 19, i64 0, .bool false, slotOf a 22, slotOf a 23, .pointer (some ⟨b, 15, none⟩), .slice ca (cansB B).length cc, i64 (cansB B).length, i64 k, v28, v29, v30, v31, v32, v33, v34, slotOf a 35, slotOf a 36, slotOf a 37, slotOf a 38, slotOf a 39, v40, slotOf a 41, slotOf a 42], defers := Ds.map mark } ∧
        Marks w1.heap.size Ds wr ∧ Below w1.heap.size w1 wr ∧ HL w1.heap.size 0 wr (preH B h k))
        (fun a _ => (cansB B).length - (intOf (a.tmps.getD 27 undef)).toNat) ?_ ?_
      · exact ⟨0, [], _, _, _, _, _, _, _, _, _, Nat.zero_le _, rfl, Marks.nil _ _, hB0, hL0⟩
      clear hB0 hL0
      rintro a' wr ⟨k, Ds, v10, v28, v29, v30, v31, v32, v33, v34, v40, hk, rfl, hMk, hbw, hHL⟩
      obtain ⟨hbx, hmp, hcn⟩ := hgd.below hbw
      have hlbw : w1.heap.size < wr.heap.size := by obtain ⟨v, h2, _⟩ := hHL; exact (Array.getElem?_eq_some_iff.1 h2).1
      by_cases hlt : k < (cansB B).length
      · have hnn := ne_nil_of_lt hlt
        have hx0 := cells_of hbx
        have hbl0 : b < wr.heap.size := by omega
        have hidx := idx91 (n := (cansB B).length) (c := cc) (k := k) wr (hcn.at_ hnn) hlt
        have hc1 := hcn.fst k hlt
        have hc2 := hcn.snd k hlt
        rw [Nat.zero_add] at hc1 hc2
        obtain ⟨⟨g1, g2⟩, g3, g4⟩ := hgd.vb.ok [] _ (List.getElem_mem hlt)
        gi_wp2_with (refine ⟨trivial, ?_⟩; gi_at_call 74; refine (CallsIn.mono (callsIn_wide.2 (heights_b B ta tc sa sc m ca (cansB B).length cc _ _ _ _)) ?_); rintro e w' ⟨b0, hbe, rfl, hb1', e0, e1, e2⟩)
        have hbA : Below wr.heap.size wr w' := ((Below.refl _ wr).alloc (Nat.le_refl _) _).trans (hb1'.mono (by simp))
        have hbw' : Below w1.heap.size w1 w' := hbw.trans (hbA.mono hbw.size)
        have hMk1 := hMk.more hbA
        have hbe' : wr.heap.size + 1 ≤ b0 := by simpa using hbe
        have hlt2 : b0 + 2 < w'.heap.size := (Array.getElem?_eq_some_iff.1 e2).1
        have hHL1 : HL w1.heap.size (b0 + 1) w' (preH B h k) := hHL.later (fun k o hk _ => (hbA.block k (Array.getElem?_eq_some_iff.1 hk).1).trans hk) (by omega)
        have hF : HF w1.heap.size b0 B tb tq ta tc sa sc m ca (cansB B).length cc (dep B.sounds []) h ((cansB B)[k]).1 ((cansB B)[k]).2 w' := ⟨by omega, e0, e1, e2, hT1.same (Same.of_below hbw'), hgd.map.same (Same.of_below hbw')⟩
        have hprl := preH_len hgd.vb h hh k hk
        have hhl : Hid (hList (B.tides[h]) (dep B.sounds []) h ((cansB B)[k]).1 ((cansB B)[k]).2 = hts B h (cansB B)[k]) := by
          show _ = _
          unfold hts
          rw [tideAt_nat hh]
        have hhlen : (hList (B.tides[h]) (dep B.sounds []) h ((cansB B)[k]).1 ((cansB B)[k]).2).length ≤ 201 := by
          rw [hhl.out]; exact hts_len hgd.vb h hh _
        clear hb1' e0 e1 e2 hbe hx0 hidx hc1 hc2 hMk hHL
        refine wpIn_rangeFunc_ownG rfl h1 (gf := 97) (lb := #[.pointer (some ⟨b0, 0, none⟩), .pointer (some ⟨b0 + 1, 0, none⟩), .pointer (some ⟨b0 + 2, 0, none⟩)]) rfl trivial (enters_of Tryd.func97 (by kernel_rfl) rfl)
          (heights_stops (n - 1) (by omega) w1.heap.size b0 B tb tq ta tc sa sc m ca (cansB B).length cc (dep B.sounds []) h (hgd.vb.hour h hh) _ _ g1 g2 g3 g4 w' hF) (fun h k => Kp.trans h k) (Kp.b (by have := hF.na; omega)) (Below.refl _ _) (fun _ => rfl)
          (fun pre W => HK w1.heap.size w' W ∧ HL w1.heap.size (b0 + 1) W (preH B h k ++ pre.map (·.1)))
          (fun c pre W => False)
          (HI_own _ _ _ (Nat.le_refl _) _ (by omega) _) (fun c s A A' row h hg hr => h) ⟨HK.refl _ _, by simpa using hHL1⟩ ?a1 ?assign ?body ?done ?stop
        case assign =>
          intro l x W K hK
          gi_wp2
          exact hK
        case body =>
          rintro l pre x W ⟨hHK, v, hbv, hrow, hbad⟩ hpl
          have hvc := cells_of hbv
          have hvl := (Array.getElem?_eq_some_iff.1 hbv).1
          obtain ⟨L, hL⟩ : ∃ L, preH B h k ++ pre.map (·.1) = L := ⟨_, rfl⟩
          have hlen2 : L.length ≤ 1000000 := by rw [← hL]; simp only [List.length_append, List.length_map]; omega
          rw [hL] at hrow
          have hL := Lib.hid hL
          have hsz := hHK.size
          obtain ⟨i0, hi, hz0, hz1', hz2⟩ := info_parts info3
          gi_wp2_with (gi_at_builtin; refine wpListIn_append_own_at _ rfl _ _ 40 rfl (w1.heap.size + 1) 3 i0 (i64 0) 1 8 Tryd.underlying40 hi hz0 hz1' hz2 rfl (by decide) v _ _ rfl (hrow.alloc _) ⟨W.heap.size, 0, none⟩ 1 1 [i64 x.1] rfl rfl (cell_one_new _ _ _) (by simp [Value.oneCell']) (by unfold maxLen; omega) (by omega) (by simp; omega) ?_; intro v' w3 hown' hgrow hnil hat; have hl3 : w3.heap[w1.heap.size]? = some (.cells #[v] 40 (0, 0)) := (hgrow.block _ (by simp; omega) (fun e => by have := (hrow.lt _ e.symm).1; omega)).trans ((Below.heap_alloc _ _ _ hvl).trans hbv); obtain ⟨hst, hbv', hrow'⟩ := HL.step hbv hrow hown' hgrow hl3 hat; obtain ⟨g', cap', rfl⟩ := ownsRow_succ hown'; have hlc := cells_of hl3; have hlf := frozen_of hl3; have hll := (Array.getElem?_eq_some_iff.1 hl3).1)
          refine ⟨hst.kf hbv hrow, hst.kp (Nat.le_refl _) (by omega) hbad hbv hrow, hHK.trans (hst.hk (Nat.le_refl _) hbv hrow), _, hbv', ?_, ?_⟩
          · rw [List.map_append, ← List.append_assoc, hL.out]
            exact hrow'
          · rcases hst.at_ with e | e
            · rw [e]; exact hbad
            · rw [e]; intro e2; have := Option.some.inj e2; omega
        case done =>
          rintro Dd xs W hD hxs ⟨hHK, hHL⟩ hK
          have hsucc : preH B h (k + 1) = preH B h k ++ xs.map (·.1) := by rw [preH_succ B h k hlt, hxs, hhl.out]
          have hHL2 : HL w1.heap.size 0 W (preH B h (k + 1)) := by
            rw [hsucc]
            obtain ⟨v, h2, h3, h4⟩ := hHL
            exact ⟨v, h2, h3, fun e => by have := (h3.lt _ e).1; omega⟩
          have hHL2 := Lib.hid hHL2
          have hsucc := Lib.hid hsucc
          clear hHL
          gi_wp2
          refine ⟨⟨k + 1, Dd :: Ds, _, _, _, _, _, _, _, _, _, hlt, by go_num, ?_, hbw'.trans (hHK.below.mono (Nat.le_refl _)), hHL2.out⟩, ?_⟩
          · exact hMk1.cons rfl (fun i hi hk => hHK.keep i _ hk (fun c e => by cases e) (fun c e => by cases e)) (by omega) hD hK
          · simp [intOf]; omega
        case stop =>
          rintro Dd c pre W hD hpre hf hK
          exact hf.elim
      · have hke : k = (cansB B).length := by omega
        have hall : Hid (preH B h k = heightL B h) := by
          show _ = _
          rw [hke]
          unfold preH heightL
          rw [List.take_length]
        have hk' : ¬ (k : Int) < ((cansB B).length : Int) := by omega
        have hprl := preH_len hgd.vb h hh k hk
        have hpos : 0 < (preH B h k).length := by rw [hall.out]; exact heightL_pos h hh hgd.pos
        clear hke
        obtain ⟨v, hbv, hrow, _⟩ := hHL
        obtain ⟨b2, o2, a2, c2, rfl, hI⟩ := ints_of_row' hrow (by omega)
        have hvc := cells_of hbv
        have hvl := (Array.getElem?_eq_some_iff.1 hbv).1
        have hz2 := (hbw.block _ (Array.getElem?_eq_some_iff.1 hz1).1).trans hz1
        have hl2 := (Array.getElem?_eq_some_iff.1 hz2).1
        gi_wp2_with (refine ⟨trivial, ?_⟩; gi_at_call 75; refine (CallsIn.mono (callsIn_wide.2 (ends_any wr.heap.size b2 o2 a2 c2 _ wr hI hpos (Nat.le_refl _))) ?_); rintro e w' ⟨rfl, hb3⟩; have hz3 := (hb3.block _ hl2).trans hz2; have hrc3 := cells_of hz3; have hrf3 := frozen_of hz3; have hrl3 := (Array.getElem?_eq_some_iff.1 hz3).1; have hMk3 := hMk.more hb3; have hb4 := hb1.trans ((hbw.trans (hb3.mono (by omega))).mono hb1.size))
        obtain ⟨lo, hlo⟩ : ∃ lo, minL (preH B h k) = lo := ⟨_, rfl⟩
        obtain ⟨hi, hhi⟩ : ∃ hi, maxL ((preH B h k).head?.getD 0) (preH B h k) = hi := ⟨_, rfl⟩
        simp only [hlo, hhi]
        have hfin : Hid (heightR B h = (lo, hi, 0)) := by
          show _ = _
          rw [hq.out, ← hall.out, hlo, hhi]
        have hset := set_two1 (set_two0 hz3 (i64 lo)) (i64 hi)
        have hMk4 : Marks w1.heap.size Ds ((w'.setCell ⟨w.heap.size + 1, 0, none⟩ (i64 lo)).setCell ⟨w.heap.size + 1, 1, none⟩ (i64 hi)) := ⟨hMk3.nodup, fun d hd => ⟨(hMk3.at_ d hd).1, by
          have h1 := (hMk3.at_ d hd)
          have h2 := (Array.getElem?_eq_some_iff.1 hz1).1
          rw [Below.heap_setCell _ _ _ _ (by show d ≠ w.heap.size + 1; omega), Below.heap_setCell _ _ _ _ (by show d ≠ w.heap.size + 1; omega)]
          exact h1.2⟩⟩
        have hbf : Below w.heap.size w ((w'.setCell ⟨w.heap.size + 1, 0, none⟩ (i64 lo)).setCell ⟨w.heap.size + 1, 1, none⟩ (i64 hi)) := (hb4.setCell (p := ⟨w.heap.size + 1, 0, none⟩) (by show w.heap.size ≤ w.heap.size + 1; omega) _).setCell (p := ⟨w.heap.size + 1, 1, none⟩) (by show w.heap.size ≤ w.heap.size + 1; omega) _
        refine leaves_marks Ds _ hMk4 (fun W' hs => ?_)
        have hcf := cells_of (hs.kept _ _ _ _ hset)
        refine ⟨.tuple #[.agg #[i64 lo, i64 hi], i64 0], ?_, ?_, hs.below (by have := hb1.size; omega) hbf⟩
        · simp [results, Tryd.f27, go_sem, hcf]
        · rw [hfin.out]
    · have hfl : Hid (heightR B hr = (0, 0, askE B (hourB B hr))) := Lib.hid (by simp [heightR, he])
      have hqq : (askE B (hourB B hr) != 0) = true := by simp [he]
      clear he
      generalize askE B (hourB B hr) = err at *
      have hrc := cells_of hz1
      have hrf := frozen_of hz1
      have hrl := (Array.getElem?_eq_some_iff.1 hz1).1
      gi_wp2_with fail
      have hset := set_two1 (set_two0 hz1 (i64 0)) (i64 0)
      have hbf : Below w.heap.size w ((w1.setCell ⟨w.heap.size + 1, 0, none⟩ (i64 0)).setCell ⟨w.heap.size + 1, 1, none⟩ (i64 0)) := (hb1.setCell (p := ⟨w.heap.size + 1, 0, none⟩) (by show w.heap.size ≤ w.heap.size + 1; omega) _).setCell (p := ⟨w.heap.size + 1, 1, none⟩) (by show w.heap.size ≤ w.heap.size + 1; omega) _
      refine leaves_marks [] _ (Marks.nil w.heap.size _) (fun W' hs => ?_)
      have hcf := cells_of (hs.kept _ _ _ _ hset)
      refine ⟨.tuple #[.agg #[i64 0, i64 0], i64 err], ?_, ?_, hs.below (Nat.le_refl _) hbf⟩
      · simp [results, Tryd.f27, go_sem, hcf]
      · rw [hfl.out]
theorem Height_any (nA : Nat) (B : Book) (tb tq : Nat) (ta : Option Addr) (tc : Nat) (sb sq : Nat) (sa : Option Addr) (sc : Nat) (hr : Int) (w : World) (hn : nA ≤ w.heap.size) (hE : Env nA w B tb tq ta sb sq sa) :
    Calls Tryd.prog 27 #[bookVal B ta tc sa sc, i64 hr] w (HeightPost B hr w) := callsIn_wide.1 (Height_in 3 (Nat.le_refl _) nA B tb tq ta tc sb sq sa sc hr w hn hE)
end Go.Proofs.YtkbmpkdflgimmaaDoor
