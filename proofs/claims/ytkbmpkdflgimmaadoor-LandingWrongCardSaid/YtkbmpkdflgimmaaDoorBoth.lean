/- The contract of Both. -/
import Derived.Test.YtkbmpkdflgimmaaDoorRGuard
namespace Go.Proofs.YtkbmpkdflgimmaaDoor
open Go.RowKit Go.Shelf

theorem ownsRow_below {w w' : World} {base : Nat} {e : TypeId} {size : Nat} {v : Value} {n : Nat} {xs : List Value} (h : w.ownsRow base e size v n xs) (hb : Below w.heap.size w w') : w'.ownsRow base e size v n xs := ownsRow_of h (fun g hg => hb.block g (h.lt g hg).2)
section
variable {ops : Array Oper} {rest : List Oper} {o : Oper} {a : Act} {w : World} {Q : Exit → Act → World → Prop}
theorem ld93w (hw : Region.wanted o (yielded ops a.tmps) = true) (x : Operand) (ho : o.op = .load 93 x) (g : Nat) (cs : Array Value) (hx : a.eval x = .pointer (some ⟨g, 0, none⟩)) (hg : w.heap[g]? = some (.cells cs 93 (0, 0))) (hs : cs.size = 16)
    (h : wpList Tryd.prog ops Q rest (a.put o.dst (.agg cs)) w) : wpList Tryd.prog ops Q (o :: rest) a w := by
  unfold wpList
  rw [if_pos hw]
  exact .inl (wp_load_row 93 x ho g hx 93 cs (0, 0) _ hg Tryd.underlying93 rfl (by rw [size93, hs]) h)
end
theorem nilInts' (n : Nat) (W : World) (a : Option Addr) : IntsAt n W 0 0 a [] := ⟨by simp, fun h => absurd rfl h, fun h => absurd rfl h, fun k h => by simp at h⟩
theorem ints_row {base : Nat} {W : World} {g c : Nat} {l : List Int} (h : W.ownsRow base 3 1 (.slice (some ⟨g, 0, none⟩) l.length c) l.length (l.map i64)) (hl : l.length ≤ 1000) : IntsAt W.heap.size W g 0 (some ⟨g, 0, none⟩) l := by
  refine ⟨by omega, fun _ => rfl, fun _ => (h.lt g rfl).2, fun k hk => ?_⟩
  have := h.cells (g := g) rfl k (i64 l[k]) (by simp [hk])
  rw [addr_add] at this
  simpa using this
theorem bothL_succ (B : Book) (ld : Int) (k : Nat) : bothL B ld (k + 1) = bothL B ld k ++ (if sureB B 0 k ld && sureB B 1 k ld then [(k : Int)] else []) := by
  unfold bothL
  rw [List.range_succ, List.filter_append, List.map_append]
  congr 1
  by_cases h : (sureB B 0 k ld && sureB B 1 k ld) = true
  · rw [if_pos h]; simp only [List.filter_cons, List.filter_nil, if_pos h]; rfl
  · rw [if_neg h]; simp only [List.filter_cons, List.filter_nil, if_neg h]; rfl
theorem bothL_len (B : Book) (ld : Int) (k : Nat) : (bothL B ld k).length ≤ k := by
  unfold bothL
  rw [List.length_map]
  exact Nat.le_trans (List.length_filter_le _ _) (by simp)
theorem sliceF {v : Value} {base : Nat} {w : World} {l : List Int} (h : w.ownsRow base 3 1 v l.length (l.map i64)) (W : World) :
    ∃ a c, v = .slice a l.length c ∧ (Instr.slice 40 (.slice a l.length c) none (some (i64 l.length)) (some (i64 l.length))).run Tryd.prog W = .ok (.slice a l.length l.length) W := by
  have hu : Tryd.prog.underlying 40 = some (.slice (Tryd.prog.elem 40)) := by kernel_rfl
  rcases h.2 with ⟨rfl, h0⟩ | ⟨g, cap, cur, rfl, h3, h4, h5, h6, h7, h8⟩
  · have : l = [] := List.length_eq_zero_iff.1 h0
    subst this
    exact ⟨none, 0, rfl, by kernel_rfl⟩
  · refine ⟨some ⟨g, 0, none⟩, cap, rfl, ?_⟩
    have hs : (sizeOf (Tryd.prog.elem 40)).run Tryd.prog W = .ok 1 W := by kernel_rfl
    rw [run_slice_hm W 40 (some ⟨g, 0, none⟩) l.length cap hu .i64 .i64 l.length l.length (by omega) (by omega) (by omega), hs]
    simp only [Result.andThen, sliced, Nat.zero_mul, Int.toNat_natCast, Nat.sub_zero, Option.map_some, addr_add, ite_self]
def BothPost (B : Book) (ld : Int) (w : World) (e : Ending) (w' : World) : Prop := ∃ b a c, e = .returned (.tuple #[.slice a (bothR B ld).1.length c, i64 (bothR B ld).2]) ∧ Below w.heap.size w w' ∧ IntsAt w'.heap.size w' b 0 a (bothR B ld).1 ∧ (bothR B ld).1.length ≤ c
def rdBoth (i : Nat) : List Nat := match i with
  | 0 => [11] | 1 => [12] | 2 => [13] | 3 => [14] | 4 => [10] | 5 => [15] | 6 => [16] | 7 => [6] | 8 => [6] | 9 => [7] | _ => []
def pureBoth (i : Nat) : Bool := match i with
  | 2 => false | 3 => false | 7 => false | 8 => false | _ => true
def gBoth (z : Nat) (B : Book) (ta : Option Addr) (tc : Nat) (sa : Option Addr) (sc : Nat) (ld : Int) (i : Nat) (vs : List Value) (W : World) : Prop := match i with
  | 0 => vs = [.agg (bookCells B ta tc sa sc)]
  | 1 => vs = [i64 ld]
  | 2 => vs = [.bool (inB ld 0 200)]
  | 3 => AskTup z B ta tc sa sc (askE B (inB ld 0 200)) vs W
  | 4 => AskTup z B ta tc sa sc (askE B (inB ld 0 200)) vs W
  | 5 => AskAgg z B ta tc sa sc (askE B (inB ld 0 200)) vs W
  | 6 => vs = [i64 (askE B (inB ld 0 200))]
  | 7 => AskBox z vs W
  | 8 => AskVar z B ta tc sa sc (askE B (inB ld 0 200)) vs W
  | 9 => vs = [i64 (askE B (inB ld 0 200))]
  | _ => True
set_option maxRecDepth 100000 in
set_option maxHeartbeats 2000000 in
theorem Both_any (nA : Nat) (B : Book) (tb tq : Nat) (ta : Option Addr) (tc : Nat) (sb sq : Nat) (sa : Option Addr) (sc : Nat) (ld : Int) (w : World) (hn : nA ≤ w.heap.size) (hE : Env nA w B tb tq ta sb sq sa) :
    Calls Tryd.prog 35 #[bookVal B ta tc sa sc, i64 ld] w (BothPost B ld w) := by
  have hb0 : Below w.heap.size w (w.alloc (.cells (bookCells B ta tc sa sc) 30)) := (Below.refl _ w).alloc (Nat.le_refl _) _
  have hE0 := hE.below hn hb0
  have hx0 : (w.alloc (.cells (bookCells B ta tc sa sc) 30)).heap[w.heap.size]? = some (.cells (bookCells B ta tc sa sc) 30 (0, 0)) := heap_alloc_new w _
  go_enter Tryd.func35, Tryd.ntmps35
  go_wp2_with fail
  refine rg_region rdBoth pureBoth (gBoth (w.heap.size + 1) B ta tc sa sc ld) (RA (w.heap.size + 1)) (by kernel_rfl) (by kernel_rfl) (fun n => RA.drawn _ _ n) (RA.refl _) (fun _ _ _ => RA.trans) ?_ ?_ ?_
  · intro i hi vs w1 w2 hG hR
    match i, hi, hG with
    | 0, _, hG => exact hG
    | 1, _, hG => exact hG
    | 2, _, hG => exact hG
    | 3, _, hG => exact AskTup.ra hG hR
    | 4, _, hG => exact AskTup.ra hG hR
    | 5, _, hG => exact AskAgg.ra hG hR
    | 6, _, hG => exact hG
    | 7, _, hG => exact AskBox.ra hG hR
    | 8, hi, _ => exact absurd hi (Bool.eq_false_iff.1 (by kernel_rfl))
    | 9, _, hG => exact hG
    | _ + 10, _, _ => trivial
  · intro i o ho a w1 hR hF hD
    have sz : a.tmps.size = 49 := hF.size
    have sB : a.eval (.tmp 2) = .pointer (some ⟨w.heap.size, 0, none⟩) := hF.slot 2 (by kernel_rfl)
    have s1 : a.eval (.tmp 1) = i64 ld := hF.slot 1 (by kernel_rfl)
    have hz : w.heap.size + 1 ≤ w1.heap.size := by have := hR.size; simpa using this
    have hx := (hR.old w.heap.size (by omega)).trans hx0
    match i, ho, hD with
    | 0, ho, hD =>
      cases ho
      refine rgw_val (wanted_none rfl) (.agg (bookCells B ta tc sa sc)) (ex_load_row 30 _ rfl _ sB 30 _ (0, 0) _ hx Tryd.underlying30 rfl (by rw [size30]; rfl)) (RA.refl _ _) ?_
      exact congrArg (fun v => [v]) (slotOf_same a 11 _ (by omega))
    | 1, ho, hD =>
      cases ho
      refine rgw_val (wanted_none rfl) (i64 ld) (ex_move _ rfl _ s1) (RA.refl _ _) ?_
      exact congrArg (fun v => [v]) (slotOf_same a 12 _ (by omega))
    | 2, ho, hD =>
      cases ho
      have e1 := slot_tmps (List.cons.inj (hD 1 (by decide))).1
      refine rgw_call (wanted_none rfl) 77 #[i64 ld] (by simp [go_sem, e1]) rfl ?_
      refine (isLoad_any ld w1).mono ?_
      rintro e w2 ⟨rfl, rfl⟩
      exact ⟨_, rfl, RA.refl _ _, congrArg (fun v => [v]) (slotOf_same a 13 _ (by omega))⟩
    | 3, ho, hD =>
      cases ho
      have e0 := slot_tmps (List.cons.inj (hD 0 (by decide))).1
      have e1 := slot_tmps (List.cons.inj (hD 2 (by decide))).1
      have hE1 := hE0.same ⟨hR.size, fun k hk => hR.old k (by omega)⟩
      refine rgw_call (wanted_none rfl) 72 #[bookVal B ta tc sa sc, .bool (inB ld 0 200)] (by simp [go_sem, e0, e1]) rfl ?_
      refine (asked_any nA B tb tq ta tc sb sq sa sc (inB ld 0 200) w1 (by omega) hE1.gl hE1.tides hE1.sounds).mono ?_
      rintro e w2 ⟨cs, rfl, hb, hcs⟩
      exact ⟨_, rfl, RA.of_below hz hb, cs, congrArg (fun v => [v]) (slotOf_same a 14 _ (by omega)), hcs.down hz⟩
    | 4, ho, hD =>
      cases ho
      obtain ⟨cs, d3, hcs⟩ := hD 3 (by decide)
      have e3 : a.eval (.tmp 14) = _ := (List.cons.inj d3).1
      refine rgw_val (wanted_none rfl) _ (ex_move _ rfl _ e3) (RA.refl _ _) ?_
      exact ⟨cs, congrArg (fun v => [v]) (slotOf_same a 10 _ (by omega)), hcs⟩
    | 5, ho, hD =>
      cases ho
      obtain ⟨cs, d4, hcs⟩ := hD 4 (by decide)
      have e4 : a.eval (.tmp 10) = _ := (List.cons.inj d4).1
      refine rgw_val (wanted_none rfl) (.agg cs) (ex_extract _ _ rfl _ _ e4 rfl) (RA.refl _ _) ?_
      exact ⟨cs, congrArg (fun v => [v]) (slotOf_same a 15 _ (by omega)), hcs⟩
    | 6, ho, hD =>
      cases ho
      obtain ⟨cs, d4, hcs⟩ := hD 4 (by decide)
      have e4 : a.eval (.tmp 10) = _ := (List.cons.inj d4).1
      refine rgw_val (wanted_none rfl) (i64 (askE B (inB ld 0 200))) (ex_extract _ _ rfl _ _ e4 rfl) (RA.refl _ _) ?_
      exact congrArg (fun v => [v]) (slotOf_same a 16 _ (by omega))
    | 7, ho, hD =>
      cases ho
      refine rg_wp rfl rfl ?_
      refine wp_of_run (v := .pointer (some ⟨w1.heap.size, 0, none⟩)) (w' := w1.alloc (.cells zero93 93)) (by simp [go_sem]) ?_
      exact ⟨_, rfl, RA.of_below hz ((Below.refl _ _).alloc (Nat.le_refl _) _), _, _, congrArg (fun v => [v]) (slotOf_same a 6 _ (by omega)), hz, heap_alloc_new _ _, rfl⟩
    | 8, ho, hD =>
      cases ho
      obtain ⟨cs, d5, hcs⟩ := hD 5 (by decide)
      obtain ⟨b, c, d7, hzb, hb, hc⟩ := hD 7 (by decide)
      have e5 : a.eval (.tmp 15) = _ := (List.cons.inj d5).1
      have e7 : a.eval (.tmp 6) = _ := (List.cons.inj d7).1
      refine rg_wp rfl rfl ?_
      refine wp_store_row 93 _ _ rfl b cs e7 e5 93 c hb (by rw [size93, hcs.size]) (by rw [hc, hcs.size]) hcs.one ?_
      have hra := RA.store hzb hb (by rw [hc, hcs.size] : cs.size = c.size)
      exact ⟨undef, rfl, hra, b, cs, d7, hzb, setRow_heap _ _ _ _ _ _ hb, hcs.ra hra⟩
    | 9, ho, hD =>
      cases ho
      have d6 : a.eval (.tmp 16) = i64 (askE B (inB ld 0 200)) := (List.cons.inj (hD 6 (by decide))).1
      refine rgw_val (wanted_none rfl) _ (ex_assign _ rfl _ d6) (RA.refl _ _) ?_
      exact congrArg (fun v => [v]) (slotOf_same a 7 _ (by omega))
    | _ + 10, ho, _ => cases ho
  · intro a w1 hR hF hA
    have f1 : slotOf a 1 = i64 ld := hF.slot 1 (by kernel_rfl)
    have f2 : slotOf a 2 = .pointer (some ⟨w.heap.size, 0, none⟩) := hF.slot 2 (by kernel_rfl)
    have f4 : slotOf a 4 = .slice none 0 0 := hF.slot 4 (by kernel_rfl)
    have f5 : slotOf a 5 = i64 0 := hF.slot 5 (by kernel_rfl)
    obtain ⟨b, cs, d8, hzb, hb, hcs⟩ := hA 8 (by decide)
    have f6 : slotOf a 6 = .pointer (some ⟨b, 0, none⟩) := (List.cons.inj d8).1
    have f7 : slotOf a 7 = i64 (askE B (inB ld 0 200)) := (List.cons.inj (hA 9 (by decide))).1
    rw [act_eta a 49 hF.size hF.defers]
    simp only [show List.range 49 = [0, 1, 2, 3, 4, 5, 6, 7, 8, 9, 10, 11, 12, 13, 14, 15, 16, 17, 18, 19, 20, 21, 22, 23, 24, 25, 26, 27, 28, 29, 30, 31, 32, 33, 34, 35, 36, 37, 38, 39, 40, 41, 42, 43, 44, 45, 46, 47, 48] from rfl, List.map_cons, List.map_nil, f1, f2, f4, f5, f6, f7]
    clear hA hF d8 f1 f2 f4 f5 f6 f7
    have hb1 : Below w.heap.size w w1 := hb0.trans (hR.below.mono (by omega))
    have hx1 := (hR.old w.heap.size (by omega)).trans hx0
    have hxc := cells_of hx1
    have hxl := (Array.getElem?_eq_some_iff.1 hx1).1
    have hT1 : SpansAt w1.heap.size w1 tb tq ta B.tides := (hE0.same ⟨hR.size, fun k hk => hR.old k (by omega)⟩).tides.up (by omega)
    by_cases he : askE B (inB ld 0 200) = 0
    · obtain ⟨his, m, ca, cc, cb, hgd⟩ := Good.of he hcs hb
      have hq : bothR B ld = (bothL B ld B.tides.length, 0) := by unfold bothR; rw [if_pos he]
      have hq := Lib.hid hq
      rw [he]
      clear he hcs
      simp only [inB_iff] at his
      obtain ⟨hl1, hl2⟩ := his
      have h24 := hgd.vb.h24
      go_wp2_with fail
      go_loopw [23, 8] (fun i v wr => ∃ k : Nat, k ≤ B.tides.length ∧ i = .int .i64 k ∧ wr.ownsRow w1.heap.size 3 1 v (bothL B ld k).length ((bothL B ld k).map i64) ∧ Below w1.heap.size w1 wr) (fun i _ _ => B.tides.length - (intOf i).toNat)
      case atStart => exact ⟨0, Nat.zero_le _, rfl, World.ownsRow_nil _ _ _ _, Below.refl _ _⟩
      case round =>
        obtain ⟨k, hk, rfl, hrow, hbw⟩ := hrel
        obtain ⟨hbx, _, _⟩ := hgd.below hbw
        by_cases hlt : k < B.tides.length
        · have hsucc := Lib.hid (bothL_succ B ld k)
          have M0 := fun W hW => must_c hgd hT1 k hlt 0 ld (.inl rfl) (by omega) (by omega) W hW
          have M1 := fun W hW => must_c hgd hT1 k hlt 1 ld (.inr rfl) (by omega) (by omega) W hW
          have hblen := bothL_len B ld k
          cases hs0 : sureB B 0 k ld
          · have hs0 := Lib.hid hs0
            go_wp2_with (first | (refine ld93 rfl _ rfl _ _ rfl hbx rfl ?_) | (refine ld93w rfl _ rfl _ _ rfl hbx2 rfl ?_) | (go_at_call 79; (with_reducible refine (M0 wr hbw).mono ?_); rintro e w2 ⟨rfl, hb2⟩; rw [hs0.out]; have hbw2 := hbw.trans (hb2.mono hbw.size); have hbx2 := (hgd.below hbw2).1))
            go_roundw
            case rel => exact ⟨k + 1, by omega, by go_num, by rw [hsucc.out, hs0.out]; simpa using ownsRow_below hrow hb2, hbw2⟩
            case measure => simp [intOf]; omega
          · have hs0 := Lib.hid hs0
            cases hs1 : sureB B 1 k ld
            · have hs1 := Lib.hid hs1
              go_wp2_with (first | (refine ld93 rfl _ rfl _ _ rfl hbx rfl ?_) | (refine ld93w rfl _ rfl _ _ rfl hbx2 rfl ?_) | (go_at_call 79; (with_reducible refine (M0 wr hbw).mono ?_); rintro e w2 ⟨rfl, hb2⟩; rw [hs0.out]; have hbw2 := hbw.trans (hb2.mono hbw.size); have hbx2 := (hgd.below hbw2).1) | (go_at_call 79; (with_reducible refine (M1 w2 hbw2).mono ?_); rintro e w3 ⟨rfl, hb3⟩; rw [hs1.out]; have hbw3 := hbw2.trans (hb3.mono hbw2.size)))
              go_roundw
              case rel => exact ⟨k + 1, by omega, by go_num, by rw [hsucc.out, hs1.out]; simpa using ownsRow_below (ownsRow_below hrow hb2) hb3, hbw3⟩
              case measure => simp [intOf]; omega
            · have hs1 := Lib.hid hs1
              obtain ⟨i0, hi, hz0, hz1', hz2⟩ := info_parts info3
              go_wp2_with (first | (refine ld93 rfl _ rfl _ _ rfl hbx rfl ?_) | (refine ld93w rfl _ rfl _ _ rfl hbx2 rfl ?_) | (go_at_call 79; (with_reducible refine (M0 wr hbw).mono ?_); rintro e w2 ⟨rfl, hb2⟩; rw [hs0.out]; have hbw2 := hbw.trans (hb2.mono hbw.size); have hbx2 := (hgd.below hbw2).1) | (go_at_call 79; (with_reducible refine (M1 w2 hbw2).mono ?_); rintro e w3 ⟨rfl, hb3⟩; rw [hs1.out]; have hbw3 := hbw2.trans (hb3.mono hbw2.size); have hrow3 := ownsRow_below (ownsRow_below hrow hb2) hb3; have hw3 := hbw3.size) | (at_builtin; refine wpList_append_own _ rfl _ _ 40 rfl w1.heap.size 3 i0 (i64 0) 1 8 Tryd.underlying40 hi hz0 hz1' hz2 rfl (by decide) _ _ _ rfl (hrow3.alloc _) ⟨w3.heap.size, 0, none⟩ 1 1 [i64 k] rfl rfl (cell_one_new _ _ _) (by simp [Value.oneCell']) (by unfold maxLen; omega) (by omega) (by simp; omega) ?_; intro v' w4 hown' hgrow hnil))
              have hbw4 : Below w1.heap.size w1 w4 := (hbw3.alloc hw3 _).grown hgrow (by simp; omega) (fun j e => (hrow3.lt j e).1)
              go_roundw
              case rel => exact ⟨k + 1, by omega, by go_num, by rw [hsucc.out, hs0.out, hs1.out]; simpa using hown', hbw4⟩
              case measure => simp [intOf]; omega
        · have hke : k = B.tides.length := by omega
          have hfin : Hid (bothR B ld = (bothL B ld k, 0)) := by
            show _ = _
            rw [hq.out, hke]
          have hke' : ¬ (k : Int) < (B.tides.length : Int) := by omega
          clear hke
          have hblen := bothL_len B ld k
          obtain ⟨a', c', rfl, hsl⟩ := sliceF hrow wr
          obtain ⟨b2, o2, a2, c2, heq, hI, _⟩ := ints_of_row hrow (by omega)
          have ho2 : Hid (∃ b3, IntsAt wr.heap.size wr b3 0 a' (bothL B ld k)) := by
            show ∃ _, _
            rcases hrow.2 with ⟨h1, h2⟩ | ⟨g, cap, cur, h1, h3, h4, h5, h6, h7, h8⟩
            · have h0 : bothL B ld k = [] := List.length_eq_zero_iff.1 h2
              rw [h0]
              exact ⟨0, nilInts' _ _ _⟩
            · obtain ⟨rfl, rfl⟩ : a' = some ⟨g, 0, none⟩ ∧ c' = cap := by simpa using h1
              exact ⟨g, ints_row hrow (by omega)⟩
          clear heq hI
          go_wp2_with fail
          refine bodyPost_ret (results_tmp2 rfl _ _) rfl ?_
          obtain ⟨b3, hI3⟩ := ho2.out
          exact ⟨b3, a', (bothL B ld k).length, by rw [hfin.out]; rfl, hb1.trans (hbw.mono hb1.size), by rw [hfin.out]; exact hI3, by rw [hfin.out]; exact Nat.le_refl _⟩
    · have hfl : Hid (bothR B ld = ([], askE B (inB ld 0 200))) := Lib.hid (by unfold bothR; rw [if_neg he])
      have hq : (askE B (inB ld 0 200) != 0) = true := by simp [he]
      clear he
      generalize askE B (inB ld 0 200) = err at *
      go_wp2_with fail
      refine bodyPost_ret (results_tmp2 rfl _ _) rfl ?_
      exact ⟨0, none, 0, by rw [hfl.out]; rfl, hb1, by rw [hfl.out]; exact nilInts' _ _ _, by rw [hfl.out]; exact Nat.le_refl _⟩
end Go.Proofs.YtkbmpkdflgimmaaDoor
