/- The contract of Lands. -/
import Derived.Test.YtkbmpkdflgimmaaDoorRGuard
import Derived.Outline
namespace Go.Proofs.YtkbmpkdflgimmaaDoor
open Go.RowKit Go.Shelf

/-- The package's table of functions. -/
structure Asks (n : Nat) (W : World) : Prop where
  n1 : 1 ≤ n
  a0 : W.cell? ⟨0, 0, none⟩ = some (.func (.func 122) #[] #[])
  a1 : W.cell? ⟨0, 1, none⟩ = some (.func (.func 79) #[] #[])
theorem Asks.same {n : Nat} {W W' : World} (h : Asks n W) (hb : Same n W W') : Asks n W' := by
  have := h.n1
  exact ⟨h.n1, (hb.cell (p := ⟨0, 0, none⟩) (by show 0 < n; omega)).trans h.a0, (hb.cell (p := ⟨0, 1, none⟩) (by show 0 < n; omega)).trans h.a1⟩
theorem ix105_0 (a b : Value) (w : World) : (Instr.index 105 (.agg #[a, b]) (.int .i64 0)).run Tryd.prog w = .ok a w := by kernel_rfl
theorem ix105_1 (a b : Value) (w : World) : (Instr.index 105 (.agg #[a, b]) (.int .i64 1)).run Tryd.prog w = .ok b w := by kernel_rfl
def cnL (B : Book) (s hr ld : Int) : Nat → Int
  | 0 => 0
  | 1 => if maybeB B s hr ld then 1 else 0
  | _ => (if maybeB B s hr ld then 1 else 0) + (if sureB B s hr ld then 1 else 0)
def LandsRPost (B : Book) (s hr ld : Int) (w : World) (e : Ending) (w' : World) : Prop := e = .returned (.tuple #[i64 (landsR B s hr ld).1, i64 (landsR B s hr ld).2]) ∧ Below w.heap.size w w'
def rdLandsR (i : Nat) : List Nat := match i with
  | 0 => [16] | 1 => [17] | 2 => [18] | 3 => [19] | 4 => [20] | 5 => [21] | 6 => [22] | 7 => [23] | 8 => [24] | 9 => [25] | 10 => [26] | 11 => [27] | 12 => [28] | 13 => [15] | 14 => [29] | 15 => [30] | 16 => [10] | 17 => [10] | 18 => [11] | _ => []
def pureLandsR (i : Nat) : Bool := match i with
  | 2 => false | 6 => false | 10 => false | 12 => false | 16 => false | 17 => false | _ => true
def gLandsR (z : Nat) (B : Book) (ta : Option Addr) (tc : Nat) (sa : Option Addr) (sc : Nat) (s hr ld : Int) (i : Nat) (vs : List Value) (W : World) : Prop := match i with
  | 0 => vs = [.agg (bookCells B ta tc sa sc)]
  | 1 => vs = [i64 s]
  | 2 => vs = [.bool (inB s 0 1)]
  | 3 => vs = [.bool (inB s 0 1)]
  | 4 => (inB s 0 1) = true → vs = [.agg (bookCells B ta tc sa sc)]
  | 5 => (inB s 0 1) = true → vs = [i64 hr]
  | 6 => (inB s 0 1) = true → vs = [.bool (hourB B hr)]
  | 7 => vs = [.bool ((inB s 0 1) && (hourB B hr))]
  | 8 => vs = [.bool ((inB s 0 1) && (hourB B hr))]
  | 9 => ((inB s 0 1) && (hourB B hr)) = true → vs = [i64 ld]
  | 10 => ((inB s 0 1) && (hourB B hr)) = true → vs = [.bool (inB ld 0 200)]
  | 11 => vs = [.bool (((inB s 0 1) && (hourB B hr)) && (inB ld 0 200))]
  | 12 => AskTup z B ta tc sa sc (askE B (((inB s 0 1) && (hourB B hr)) && (inB ld 0 200))) vs W
  | 13 => AskTup z B ta tc sa sc (askE B (((inB s 0 1) && (hourB B hr)) && (inB ld 0 200))) vs W
  | 14 => AskAgg z B ta tc sa sc (askE B (((inB s 0 1) && (hourB B hr)) && (inB ld 0 200))) vs W
  | 15 => vs = [i64 (askE B (((inB s 0 1) && (hourB B hr)) && (inB ld 0 200)))]
  | 16 => AskBox z vs W
  | 17 => AskVar z B ta tc sa sc (askE B (((inB s 0 1) && (hourB B hr)) && (inB ld 0 200))) vs W
  | 18 => vs = [i64 (askE B (((inB s 0 1) && (hourB B hr)) && (inB ld 0 200)))]
  | _ => True
set_option maxRecDepth 100000 in
set_option maxHeartbeats 2000000 in
theorem LandsR_any (nA : Nat) (B : Book) (tb tq : Nat) (ta : Option Addr) (tc : Nat) (sb sq : Nat) (sa : Option Addr) (sc : Nat) (s hr ld : Int) (w : World) (hn : nA ≤ w.heap.size) (hE : Env nA w B tb tq ta sb sq sa) (hAs : Asks nA w) :
    Calls Tryd.prog 29 #[bookVal B ta tc sa sc, i64 s, i64 hr, i64 ld] w (LandsRPost B s hr ld w) := by
  have hb0 : Below w.heap.size w (w.alloc (.cells (bookCells B ta tc sa sc) 30)) := (Below.refl _ w).alloc (Nat.le_refl _) _
  have hE0 := hE.below hn hb0
  have hx0 : (w.alloc (.cells (bookCells B ta tc sa sc) 30)).heap[w.heap.size]? = some (.cells (bookCells B ta tc sa sc) 30 (0, 0)) := heap_alloc_new w _
  go_enter Tryd.func29, Tryd.ntmps29
  go_wp2_with fail
  refine rg_region rdLandsR pureLandsR (gLandsR (w.heap.size + 1) B ta tc sa sc s hr ld) (RA (w.heap.size + 1)) (by kernel_rfl) (by kernel_rfl) (fun n => RA.drawn _ _ n) (RA.refl _) (fun _ _ _ => RA.trans) ?_ ?_ ?_
  · intro i hi vs w1 w2 hG hR
    match i, hi, hG with
    | 0, _, hG => exact hG
    | 1, _, hG => exact hG
    | 2, _, hG => exact hG
    | 3, _, hG => exact hG
    | 4, _, hG => exact hG
    | 5, _, hG => exact hG
    | 6, _, hG => exact hG
    | 7, _, hG => exact hG
    | 8, _, hG => exact hG
    | 9, _, hG => exact hG
    | 10, _, hG => exact hG
    | 11, _, hG => exact hG
    | 12, _, hG => exact AskTup.ra hG hR
    | 13, _, hG => exact AskTup.ra hG hR
    | 14, _, hG => exact AskAgg.ra hG hR
    | 15, _, hG => exact hG
    | 16, _, hG => exact AskBox.ra hG hR
    | 17, hi, _ => exact absurd hi (Bool.eq_false_iff.1 (by kernel_rfl))
    | 18, _, hG => exact hG
    | _ + 19, _, _ => trivial
  · intro i o ho a w1 hR hF hD
    have sz : a.tmps.size = 49 := hF.size
    have sB : a.eval (.tmp 4) = .pointer (some ⟨w.heap.size, 0, none⟩) := hF.slot 4 (by kernel_rfl)
    have s1 : a.eval (.tmp 1) = i64 s := hF.slot 1 (by kernel_rfl)
    have s2 : a.eval (.tmp 2) = i64 hr := hF.slot 2 (by kernel_rfl)
    have s3 : a.eval (.tmp 3) = i64 ld := hF.slot 3 (by kernel_rfl)
    have hz : w.heap.size + 1 ≤ w1.heap.size := by have := hR.size; simpa using this
    have hx := (hR.old w.heap.size (by omega)).trans hx0
    match i, ho, hD with
    | 0, ho, hD =>
      cases ho
      refine rgw_val (wanted_none rfl) (.agg (bookCells B ta tc sa sc)) (ex_load_row 30 _ rfl _ sB 30 _ (0, 0) _ hx Tryd.underlying30 rfl (by rw [size30]; rfl)) (RA.refl _ _) ?_
      exact congrArg (fun v => [v]) (slotOf_same a 16 _ (by omega))
    | 1, ho, hD =>
      cases ho
      refine rgw_val (wanted_none rfl) (i64 s) (ex_move _ rfl _ s1) (RA.refl _ _) ?_
      exact congrArg (fun v => [v]) (slotOf_same a 17 _ (by omega))
    | 2, ho, hD =>
      cases ho
      have e1 := slot_tmps (List.cons.inj (hD 1 (by decide))).1
      refine rgw_call (wanted_none rfl) 76 #[i64 s] (by simp [go_sem, e1]) rfl ?_
      refine (isShore_any s w1).mono ?_
      rintro e w2 ⟨rfl, rfl⟩
      exact ⟨_, rfl, RA.refl _ _, congrArg (fun v => [v]) (slotOf_same a 18 _ (by omega))⟩
    | 3, ho, hD =>
      cases ho
      have e1 : a.eval (.tmp 18) = .bool (inB s 0 1) := (List.cons.inj (hD 2 (by decide))).1
      refine rgw_val (wanted_none rfl) (.bool (inB s 0 1)) (ex_move _ rfl _ e1) (RA.refl _ _) ?_
      exact congrArg (fun v => [v]) (slotOf_same a 19 _ (by omega))
    | 4, ho, hD =>
      cases ho
      have dj : slotOf a 19 = .bool (inB s 0 1) := (List.cons.inj (hD 3 (by decide))).1
      cases hc : inB s 0 1
      · refine rgw_skip (by rw [wanted_of (d := 19) rfl rfl dj, hc]; rfl) ?_
        intro h; rw [hc] at h; cases h
      · have hcw := hc
        refine rgw_val (by rw [wanted_of (d := 19) rfl rfl dj, hc]; rfl) (.agg (bookCells B ta tc sa sc)) (ex_load_row 30 _ rfl _ sB 30 _ (0, 0) _ hx Tryd.underlying30 rfl (by rw [size30]; rfl)) (RA.refl _ _) ?_
        exact fun _ => congrArg (fun v => [v]) (slotOf_same a 20 _ (by omega))
    | 5, ho, hD =>
      cases ho
      have dj : slotOf a 19 = .bool (inB s 0 1) := (List.cons.inj (hD 3 (by decide))).1
      cases hc : inB s 0 1
      · refine rgw_skip (by rw [wanted_of (d := 19) rfl rfl dj, hc]; rfl) ?_
        intro h; rw [hc] at h; cases h
      · have hcw := hc
        refine rgw_val (by rw [wanted_of (d := 19) rfl rfl dj, hc]; rfl) (i64 hr) (ex_move _ rfl _ s2) (RA.refl _ _) ?_
        exact fun _ => congrArg (fun v => [v]) (slotOf_same a 21 _ (by omega))
    | 6, ho, hD =>
      cases ho
      have dj : slotOf a 19 = .bool (inB s 0 1) := (List.cons.inj (hD 3 (by decide))).1
      cases hc : inB s 0 1
      · refine rgw_skip (by rw [wanted_of (d := 19) rfl rfl dj, hc]; rfl) ?_
        intro h; rw [hc] at h; cases h
      · have hcw := hc
        have e0 := slot_tmps (List.cons.inj (hD 4 (by decide) hcw)).1
        have e1 := slot_tmps (List.cons.inj (hD 5 (by decide) hcw)).1
        refine rgw_call (by rw [wanted_of (d := 19) rfl rfl dj, hc]; rfl) 73 #[bookVal B ta tc sa sc, i64 hr] (by simp [go_sem, e0, e1]) rfl ?_
        refine (isHour_any B ta tc sa sc hr w1 hE.tides.len).mono ?_
        rintro e w2 ⟨rfl, hb⟩
        exact ⟨_, rfl, RA.of_below hz hb, fun _ => congrArg (fun v => [v]) (slotOf_same a 22 _ (by omega))⟩
    | 7, ho, hD =>
      cases ho
      have dj : a.eval (.tmp 19) = .bool (inB s 0 1) := (List.cons.inj (hD 3 (by decide))).1
      have d6 : (inB s 0 1) = true → a.eval (.tmp 22) = .bool (hourB B hr) := fun h => (List.cons.inj (hD 6 (by decide) h)).1
      refine rgw_val (wanted_none rfl) (.bool ((inB s 0 1) && (hourB B hr))) ?_ (RA.refl _ _) (congrArg (fun v => [v]) (slotOf_same a 23 _ (by omega)))
      rw [ex_pick _ _ _ rfl _ dj]
      cases hc : inB s 0 1
      · rfl
      · rw [if_pos rfl, d6 hc, Bool.true_and]
    | 8, ho, hD =>
      cases ho
      have e1 : a.eval (.tmp 23) = .bool ((inB s 0 1) && (hourB B hr)) := (List.cons.inj (hD 7 (by decide))).1
      refine rgw_val (wanted_none rfl) (.bool ((inB s 0 1) && (hourB B hr))) (ex_move _ rfl _ e1) (RA.refl _ _) ?_
      exact congrArg (fun v => [v]) (slotOf_same a 24 _ (by omega))
    | 9, ho, hD =>
      cases ho
      have dj : slotOf a 24 = .bool ((inB s 0 1) && (hourB B hr)) := (List.cons.inj (hD 8 (by decide))).1
      cases hc : (inB s 0 1) && (hourB B hr)
      · refine rgw_skip (by rw [wanted_of (d := 24) rfl rfl dj, hc]; rfl) ?_
        intro h; rw [hc] at h; cases h
      · have hcw := hc
        refine rgw_val (by rw [wanted_of (d := 24) rfl rfl dj, hc]; rfl) (i64 ld) (ex_move _ rfl _ s3) (RA.refl _ _) ?_
        exact fun _ => congrArg (fun v => [v]) (slotOf_same a 25 _ (by omega))
    | 10, ho, hD =>
      cases ho
      have dj : slotOf a 24 = .bool ((inB s 0 1) && (hourB B hr)) := (List.cons.inj (hD 8 (by decide))).1
      cases hc : (inB s 0 1) && (hourB B hr)
      · refine rgw_skip (by rw [wanted_of (d := 24) rfl rfl dj, hc]; rfl) ?_
        intro h; rw [hc] at h; cases h
      · have hcw := hc
        have e1 := slot_tmps (List.cons.inj (hD 9 (by decide) hcw)).1
        refine rgw_call (by rw [wanted_of (d := 24) rfl rfl dj, hc]; rfl) 77 #[i64 ld] (by simp [go_sem, e1]) rfl ?_
        refine (isLoad_any ld w1).mono ?_
        rintro e w2 ⟨rfl, rfl⟩
        exact ⟨_, rfl, RA.refl _ _, fun _ => congrArg (fun v => [v]) (slotOf_same a 26 _ (by omega))⟩
    | 11, ho, hD =>
      cases ho
      have dj : a.eval (.tmp 24) = .bool ((inB s 0 1) && (hourB B hr)) := (List.cons.inj (hD 8 (by decide))).1
      have d6 : ((inB s 0 1) && (hourB B hr)) = true → a.eval (.tmp 26) = .bool (inB ld 0 200) := fun h => (List.cons.inj (hD 10 (by decide) h)).1
      refine rgw_val (wanted_none rfl) (.bool (((inB s 0 1) && (hourB B hr)) && (inB ld 0 200))) ?_ (RA.refl _ _) (congrArg (fun v => [v]) (slotOf_same a 27 _ (by omega)))
      rw [ex_pick _ _ _ rfl _ dj]
      cases hc : (inB s 0 1) && (hourB B hr)
      · rfl
      · rw [if_pos rfl, d6 hc, Bool.true_and]
    | 12, ho, hD =>
      cases ho
      have e0 := slot_tmps (List.cons.inj (hD 0 (by decide))).1
      have e1 := slot_tmps (List.cons.inj (hD 11 (by decide))).1
      have hE1 := hE0.same ⟨hR.size, fun k hk => hR.old k (by omega)⟩
      refine rgw_call (wanted_none rfl) 72 #[bookVal B ta tc sa sc, .bool (((inB s 0 1) && (hourB B hr)) && (inB ld 0 200))] (by simp [go_sem, e0, e1]) rfl ?_
      refine (asked_any nA B tb tq ta tc sb sq sa sc (((inB s 0 1) && (hourB B hr)) && (inB ld 0 200)) w1 (by omega) hE1.gl hE1.tides hE1.sounds).mono ?_
      rintro e w2 ⟨cs, rfl, hb, hcs⟩
      exact ⟨_, rfl, RA.of_below hz hb, cs, congrArg (fun v => [v]) (slotOf_same a 28 _ (by omega)), hcs.down hz⟩
    | 13, ho, hD =>
      cases ho
      obtain ⟨cs, d3, hcs⟩ := hD 12 (by decide)
      have e3 : a.eval (.tmp 28) = _ := (List.cons.inj d3).1
      refine rgw_val (wanted_none rfl) _ (ex_move _ rfl _ e3) (RA.refl _ _) ?_
      exact ⟨cs, congrArg (fun v => [v]) (slotOf_same a 15 _ (by omega)), hcs⟩
    | 14, ho, hD =>
      cases ho
      obtain ⟨cs, d4, hcs⟩ := hD 13 (by decide)
      have e4 : a.eval (.tmp 15) = _ := (List.cons.inj d4).1
      refine rgw_val (wanted_none rfl) (.agg cs) (ex_extract _ _ rfl _ _ e4 rfl) (RA.refl _ _) ?_
      exact ⟨cs, congrArg (fun v => [v]) (slotOf_same a 29 _ (by omega)), hcs⟩
    | 15, ho, hD =>
      cases ho
      obtain ⟨cs, d4, hcs⟩ := hD 13 (by decide)
      have e4 : a.eval (.tmp 15) = _ := (List.cons.inj d4).1
      refine rgw_val (wanted_none rfl) (i64 (askE B (((inB s 0 1) && (hourB B hr)) && (inB ld 0 200)))) (ex_extract _ _ rfl _ _ e4 rfl) (RA.refl _ _) ?_
      exact congrArg (fun v => [v]) (slotOf_same a 30 _ (by omega))
    | 16, ho, hD =>
      cases ho
      refine rg_wp rfl rfl ?_
      refine wp_of_run (v := .pointer (some ⟨w1.heap.size, 0, none⟩)) (w' := w1.alloc (.cells zero93 93)) (by simp [go_sem]) ?_
      exact ⟨_, rfl, RA.of_below hz ((Below.refl _ _).alloc (Nat.le_refl _) _), _, _, congrArg (fun v => [v]) (slotOf_same a 10 _ (by omega)), hz, heap_alloc_new _ _, rfl⟩
    | 17, ho, hD =>
      cases ho
      obtain ⟨cs, d5, hcs⟩ := hD 14 (by decide)
      obtain ⟨b, c, d7, hzb, hb, hc⟩ := hD 16 (by decide)
      have e5 : a.eval (.tmp 29) = _ := (List.cons.inj d5).1
      have e7 : a.eval (.tmp 10) = _ := (List.cons.inj d7).1
      refine rg_wp rfl rfl ?_
      refine wp_store_row 93 _ _ rfl b cs e7 e5 93 c hb (by rw [size93, hcs.size]) (by rw [hc, hcs.size]) hcs.one ?_
      have hra := RA.store hzb hb (by rw [hc, hcs.size] : cs.size = c.size)
      exact ⟨undef, rfl, hra, b, cs, d7, hzb, setRow_heap _ _ _ _ _ _ hb, hcs.ra hra⟩
    | 18, ho, hD =>
      cases ho
      have d6 : a.eval (.tmp 30) = i64 (askE B (((inB s 0 1) && (hourB B hr)) && (inB ld 0 200))) := (List.cons.inj (hD 15 (by decide))).1
      refine rgw_val (wanted_none rfl) _ (ex_assign _ rfl _ d6) (RA.refl _ _) ?_
      exact congrArg (fun v => [v]) (slotOf_same a 11 _ (by omega))
    | _ + 19, ho, _ => cases ho
  · intro a w1 hR hF hA
    have f1 : slotOf a 1 = i64 s := hF.slot 1 (by kernel_rfl)
    have f2 : slotOf a 2 = i64 hr := hF.slot 2 (by kernel_rfl)
    have f3 : slotOf a 3 = i64 ld := hF.slot 3 (by kernel_rfl)
    have f4 : slotOf a 4 = .pointer (some ⟨w.heap.size, 0, none⟩) := hF.slot 4 (by kernel_rfl)
    have f8 : slotOf a 8 = i64 0 := hF.slot 8 (by kernel_rfl)
    have f9 : slotOf a 9 = i64 0 := hF.slot 9 (by kernel_rfl)
    obtain ⟨b, cs, d8, hzb, hb, hcs⟩ := hA 17 (by decide)
    have f10 : slotOf a 10 = .pointer (some ⟨b, 0, none⟩) := (List.cons.inj d8).1
    have f11 : slotOf a 11 = i64 (askE B (((inB s 0 1) && (hourB B hr)) && (inB ld 0 200))) := (List.cons.inj (hA 18 (by decide))).1
    rw [act_eta a 49 hF.size hF.defers]
    simp only [show List.range 49 = [0, 1, 2, 3, 4, 5, 6, 7, 8, 9, 10, 11, 12, 13, 14, 15, 16, 17, 18, 19, 20, 21, 22, 23, 24, 25, 26, 27, 28, 29, 30, 31, 32, 33, 34, 35, 36, 37, 38, 39, 40, 41, 42, 43, 44, 45, 46, 47, 48] from rfl, List.map_cons, List.map_nil, f1, f2, f3, f4, f8, f9, f10, f11]
    clear hA hF d8 f1 f2 f3 f4 f8 f9 f10 f11
    have hb1 : Below w.heap.size w w1 := hb0.trans (hR.below.mono (by omega))
    have hx1 := (hR.old w.heap.size (by omega)).trans hx0
    have hxc := cells_of hx1
    have hxl := (Array.getElem?_eq_some_iff.1 hx1).1
    have hT1 : SpansAt w1.heap.size w1 tb tq ta B.tides := (hE0.same ⟨hR.size, fun k hk => hR.old k (by omega)⟩).tides.up (by omega)
    by_cases he : askE B (((inB s 0 1) && (hourB B hr)) && (inB ld 0 200)) = 0
    · obtain ⟨his, m, ca, cc, cb, hgd⟩ := Good.of he hcs hb
      have hq : landsR B s hr ld = ((if maybeB B s hr ld then 1 else 0) + (if sureB B s hr ld then 1 else 0), 0) := by unfold landsR askL; rw [if_pos he]
      have hq := Lib.hid hq
      rw [he]
      clear he hcs
      simp only [Bool.and_eq_true, hourB, inB_iff] at his
      obtain ⟨⟨⟨hs1, hs2⟩, hh1, hh2⟩, hl1, hl2⟩ := his
      have hs : s = 0 ∨ s = 1 := by omega
      obtain ⟨h, rfl⟩ : ∃ h : Nat, hr = h := ⟨hr.toNat, by omega⟩
      have hh : h < B.tides.length := by omega
      have hs := Lib.hid hs
      have M0 := fun W hW => may_c hgd hT1 h hh s ld hs.out (by omega) (by omega) W hW
      have M1 := fun W hW => must_c hgd hT1 h hh s ld hs.out (by omega) (by omega) W hW
      have hA1 := hAs.same ((Same.of_below hb1).mono hn)
      have ha0 := hA1.a0
      have ha1 := hA1.a1
      have hi0 := ix105_0 (.func (.func 122) #[] #[]) (.func (.func 79) #[] #[])
      have hi1 := ix105_1 (.func (.func 122) #[] #[]) (.func (.func 79) #[] #[])
      have hbx := hgd.box
      have h00 : 0 < w1.heap.size := by omega
      clear hs1 hs2
      go_wp2_with fail
      go_loopw [35, 12] (fun i c wr => ∃ (k : Nat) (y : Int), k ≤ 2 ∧ i = .int .i64 k ∧ c = i64 y ∧ Hid (y = cnL B s h ld k) ∧ Below w1.heap.size w1 wr) (fun i _ _ => 2 - (intOf i).toNat)
      case atStart => exact ⟨0, 0, by omega, rfl, rfl, rfl, Below.refl _ _⟩
      case round =>
        obtain ⟨k, y, hk, rfl, rfl, hy, hbw⟩ := hrel
        have hbx := (hgd.below hbw).1
        rcases (by omega : k = 0 ∨ k = 1 ∨ k = 2) with rfl | rfl | rfl
        · obtain rfl : y = 0 := hy.out
          clear hy
          cases hv : maybeB B s h ld
          · have hv := Lib.hid hv
            go_wp2_with (first | (refine ld93 rfl _ rfl _ _ rfl hbx rfl ?_) | (go_at_call 122; (with_reducible refine (M0 wr hbw).mono ?_); rintro e w2 ⟨rfl, hb2⟩; rw [hv.out]; have hbw2 := hbw.trans (hb2.mono hbw.size)))
            go_roundw
            case rel => exact ⟨1, 0, by omega, by go_num, rfl, by show _ = cnL _ _ _ _ 1; simp [cnL, hv.out], hbw2⟩
            case measure => simp [intOf]
          · have hv := Lib.hid hv
            go_wp2_with (first | (refine ld93 rfl _ rfl _ _ rfl hbx rfl ?_) | (go_at_call 122; (with_reducible refine (M0 wr hbw).mono ?_); rintro e w2 ⟨rfl, hb2⟩; rw [hv.out]; have hbw2 := hbw.trans (hb2.mono hbw.size)))
            go_roundw
            case rel => exact ⟨1, 1, by omega, by go_num, rfl, by show _ = cnL _ _ _ _ 1; simp [cnL, hv.out], hbw2⟩
            case measure => simp [intOf]
        · have hy01 : 0 ≤ y ∧ y ≤ 1 := by
            show _ ∧ _
            rw [hy.out, show cnL B s h ld 1 = (if maybeB B s h ld then 1 else 0) from rfl]
            split <;> simp
          obtain ⟨hy0, hy1⟩ := hy01
          cases hv : sureB B s h ld
          · have hv := Lib.hid hv
            go_wp2_with (first | (refine ld93 rfl _ rfl _ _ rfl hbx rfl ?_) | (go_at_call 79; (with_reducible refine (M1 wr hbw).mono ?_); rintro e w2 ⟨rfl, hb2⟩; rw [hv.out]; have hbw2 := hbw.trans (hb2.mono hbw.size)))
            go_roundw
            case rel => exact ⟨2, y, by omega, by go_num, rfl, by show _ = cnL _ _ _ _ 2; have := hy.out; simp [cnL, hv.out] at this ⊢; omega, hbw2⟩
            case measure => simp [intOf]
          · have hv := Lib.hid hv
            go_wp2_with (first | (refine ld93 rfl _ rfl _ _ rfl hbx rfl ?_) | (go_at_call 79; (with_reducible refine (M1 wr hbw).mono ?_); rintro e w2 ⟨rfl, hb2⟩; rw [hv.out]; have hbw2 := hbw.trans (hb2.mono hbw.size)))
            go_roundw
            case rel => exact ⟨2, y + 1, by omega, by go_num, rfl, by show _ = cnL _ _ _ _ 2; have := hy.out; simp [cnL, hv.out] at this ⊢; omega, hbw2⟩
            case measure => simp [intOf]
        · have hfin : Hid (landsR B s h ld = (y, 0)) := by
            show _ = _
            rw [hq.out, hy.out]
            rfl
          go_wp2_with fail
          refine bodyPost_ret (results_tmp2 rfl _ _) rfl ?_
          exact ⟨by rw [hfin.out]; rfl, hb1.trans (hbw.mono hb1.size)⟩
    · have hfl : Hid (landsR B s hr ld = (0, askE B (((inB s 0 1) && (hourB B hr)) && (inB ld 0 200)))) := Lib.hid (by unfold landsR askL; rw [if_neg he])
      have hq : (askE B (((inB s 0 1) && (hourB B hr)) && (inB ld 0 200)) != 0) = true := by simp [he]
      clear he
      generalize askE B (((inB s 0 1) && (hourB B hr)) && (inB ld 0 200)) = err at *
      go_wp2_with fail
      refine bodyPost_ret (results_tmp2 rfl _ _) rfl ?_
      exact ⟨by rw [hfl.out]; rfl, hb1⟩
end Go.Proofs.YtkbmpkdflgimmaaDoor
