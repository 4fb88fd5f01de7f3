/- Contracts of OwnLanding, KeptLanding. (Printed by genref2.py.) -/
import Derived.Test.YtkbmpkdflgimmaaDoorRef1
namespace Go.Proofs.YtkbmpkdflgimmaaDoor
open Go.RowKit Go.Shelf

theorem spans_but {W W' : World} {y b o : Nat} {a : Option Addr} {l : List Span} (h : SpansAt W.heap.size W b o a l) (hb : l ≠ [] → b ≠ y) (h1 : ∀ k, k ≠ y → W'.heap[k]? = W.heap[k]?) (h2 : W'.heap.size = W.heap.size) : SpansAt W'.heap.size W' b o a l := by
  refine ⟨h.len, h.at_, fun hne => by rw [h2]; exact h.lt hne, fun k hk => ?_, fun k hk => ?_⟩
  · exact (World.cell?_of_block (w := W) (h1 b (hb (ne_nil_of_lt hk)))).trans (h.lo k hk)
  · exact (World.cell?_of_block (w := W) (h1 b (hb (ne_nil_of_lt hk)))).trans (h.hi k hk)
theorem sounds_but {W W' : World} {y b o : Nat} {a : Option Addr} {l : List Sound} (h : SoundsAt W.heap.size W b o a l) (hb : l ≠ [] → b ≠ y) (h1 : ∀ k, k ≠ y → W'.heap[k]? = W.heap[k]?) (h2 : W'.heap.size = W.heap.size) : SoundsAt W'.heap.size W' b o a l := by
  refine ⟨h.len, h.at_, fun hne => by rw [h2]; exact h.lt hne, fun k hk => ?_, fun k hk => ?_, fun k hk => ?_⟩
  · exact (World.cell?_of_block (w := W) (h1 b (hb (ne_nil_of_lt hk)))).trans (h.hour k hk)
  · exact (World.cell?_of_block (w := W) (h1 b (hb (ne_nil_of_lt hk)))).trans (h.shore k hk)
  · exact (World.cell?_of_block (w := W) (h1 b (hb (ne_nil_of_lt hk)))).trans (h.deep k hk)
theorem set2 {W : World} {y : Nat} {cs : Array Value} (h : W.heap[y]? = some (.cells cs 30 (0, 0))) (o p : Nat) (a b : Value) :
    ((W.setCell ⟨y, o, none⟩ a).setCell ⟨y, p, none⟩ b).heap[y]? = some (.cells ((cs.setIfInBounds o a).setIfInBounds p b) 30 (0, 0)) ∧
    (∀ k, k ≠ y → ((W.setCell ⟨y, o, none⟩ a).setCell ⟨y, p, none⟩ b).heap[k]? = W.heap[k]?) ∧ ((W.setCell ⟨y, o, none⟩ a).setCell ⟨y, p, none⟩ b).heap.size = W.heap.size ∧
    ∀ m w, m ≤ y → Below m w W → Below m w ((W.setCell ⟨y, o, none⟩ a).setCell ⟨y, p, none⟩ b) := by
  refine ⟨set_book' _ (set_book' _ h _) _, fun k hk => ?_, by simp [World.setCell], fun m w hm hb => ?_⟩
  · exact (Below.heap_setCell _ ⟨y, p, none⟩ _ k hk).trans (Below.heap_setCell _ ⟨y, o, none⟩ _ k hk)
  · exact (hb.setCell (p := ⟨y, o, none⟩) hm _).setCell (p := ⟨y, p, none⟩) hm _
theorem fields24r : Tryd.prog.fieldsOf 24 = #[{ name := "Low", type := 3, offset := 0, embedded := false, tag := "", pkgPath := "", byteOffset := 0 }, { name := "High", type := 3, offset := 1, embedded := false, tag := "", pkgPath := "", byteOffset := 8 }] := by kernel_rfl
theorem fields26r : Tryd.prog.fieldsOf 26 = #[{ name := "Floor", type := 24, offset := 0, embedded := false, tag := "", pkgPath := "", byteOffset := 0 }, { name := "Low", type := 3, offset := 2, embedded := false, tag := "", pkgPath := "", byteOffset := 16 }, { name := "High", type := 3, offset := 3, embedded := false, tag := "", pkgPath := "", byteOffset := 24 }] := by kernel_rfl
theorem stood24r : Tryd.prog.stoodInHeld 24 = false := by kernel_rfl
theorem stood26r : Tryd.prog.stoodInHeld 26 = false := by kernel_rfl
theorem eqS24 (n : Nat) (a b : Int) (w : World) : (Op.equalIn (n + 2) 24 (.agg #[i64 a, i64 b]) (.agg #[i64 a, i64 b])).run Tryd.prog w = .ok true w := by
  have h0 := run_equalIn_struct (P := Tryd.prog) w (n + 1) 24 #[i64 a, i64 b] #[i64 a, i64 b] (by rw [fields24r]; exact Tryd.underlying24) stood24r
  rw [fields24r] at h0
  refine h0.trans ?_
  have h1 := run_equalIn_int (P := Tryd.prog) w n 3 .i64 .i64 a a Tryd.underlying3
  have h2 := run_equalIn_int (P := Tryd.prog) w n 3 .i64 .i64 b b Tryd.underlying3
  simp [Op.eqFields, part3, part3', Sem.run_bind, h1, h2]
theorem eqS26 (n : Nat) (a b c d : Int) (w : World) : (Op.equalIn (n + 3) 26 (.agg #[i64 a, i64 b, i64 c, i64 d]) (.agg #[i64 a, i64 b, i64 c, i64 d])).run Tryd.prog w = .ok true w := by
  have h0 := run_equalIn_struct (P := Tryd.prog) w (n + 2) 26 #[i64 a, i64 b, i64 c, i64 d] #[i64 a, i64 b, i64 c, i64 d] (by rw [fields26r]; exact Tryd.underlying26) stood26r
  rw [fields26r] at h0
  refine h0.trans ?_
  have p0 : (part 24 #[i64 a, i64 b, i64 c, i64 d] 0).run Tryd.prog w = .ok (.agg #[i64 a, i64 b]) w := by kernel_rfl
  have p1 : (part 3 #[i64 a, i64 b, i64 c, i64 d] 2).run Tryd.prog w = .ok (i64 c) w := by kernel_rfl
  have p2 : (part 3 #[i64 a, i64 b, i64 c, i64 d] 3).run Tryd.prog w = .ok (i64 d) w := by kernel_rfl
  have h1 := eqS24 n a b w
  have h2 := run_equalIn_int (P := Tryd.prog) w (n + 1) 3 .i64 .i64 c c Tryd.underlying3
  have h3 := run_equalIn_int (P := Tryd.prog) w (n + 1) 3 .i64 .i64 d d Tryd.underlying3
  simp [Op.eqFields, p0, p1, p2, Sem.run_bind, h1, h2, h3]
theorem eqS27 (n : Nat) (a b c d e f g h : Int) (w : World) : (Op.equalIn (n + 4) 27 (.agg #[i64 a, i64 b, i64 c, i64 d, i64 e, i64 f, i64 g, i64 h]) (.agg #[i64 a, i64 b, i64 c, i64 d, i64 e, i64 f, i64 g, i64 h])).run Tryd.prog w = .ok true w := by
  have hi : (Tryd.prog.info? 26).map (·.size) = some 4 := by kernel_rfl
  obtain ⟨i, hi, _⟩ := Option.map_eq_some_iff.1 hi
  rw [run_equalIn_array w (n + 3) _ _ Tryd.underlying27 hi, show Tryd.prog.cellsOf 26 = 4 by kernel_rfl]
  have hr : List.range 2 = [0, 1] := rfl
  have p0 : (part 26 #[i64 a, i64 b, i64 c, i64 d, i64 e, i64 f, i64 g, i64 h] 0).run Tryd.prog w = .ok (.agg #[i64 a, i64 b, i64 c, i64 d]) w := by kernel_rfl
  have p1 : (part 26 #[i64 a, i64 b, i64 c, i64 d, i64 e, i64 f, i64 g, i64 h] 4).run Tryd.prog w = .ok (.agg #[i64 e, i64 f, i64 g, i64 h]) w := by kernel_rfl
  have h1 := eqS26 n a b c d w
  have h2 := eqS26 n e f g h w
  simp [Op.eqItems, hr, p0, p1, Sem.run_bind, h1, h2]
def rdOw (i : Nat) : List Nat := match i with
  | 0 => [3] | 1 => [4] | 2 => [5] | 3 => [6] | 4 => [7] | 5 => [8] | 6 => [9] | _ => []
def pureOw (i : Nat) : Bool := match i with
  | 2 => false | 5 => false | _ => true
def gOw (w : World) (B : Book) (ta : Option Addr) (tc : Nat) (sa : Option Addr) (sc : Nat) (i : Nat) (vs : List Value) (W : World) : Prop := match i with
  | 0 => vs = [.pointer (some ⟨w.heap.size, 0, none⟩)]
  | 1 => vs = [.slice ta B.tides.length tc]
  | 2 => ∃ b a c, vs = [.slice a B.tides.length c] ∧ SpansAt W.heap.size W b 0 a B.tides ∧ (B.tides ≠ [] → w.heap.size + 2 ≤ b)
  | 3 => vs = [.pointer (some ⟨w.heap.size, 13, none⟩)]
  | 4 => vs = [.slice sa B.sounds.length sc]
  | 5 => ∃ b a c, vs = [.slice a B.sounds.length c] ∧ SoundsAt W.heap.size W b 0 a B.sounds ∧ (B.sounds ≠ [] → w.heap.size + 2 ≤ b)
  | 6 => vs = [.pointer (some ⟨w.heap.size, 0, none⟩)]
  | _ => True
set_option maxRecDepth 100000 in
set_option maxHeartbeats 4000000 in
theorem ownLanding_any (B : Book) (tb tq : Nat) (ta : Option Addr) (tc : Nat) (sb sq : Nat) (sa : Option Addr) (sc : Nat) (w : World) (hT : SpansAt w.heap.size w tb tq ta B.tides) (hS : SoundsAt w.heap.size w sb sq sa B.sounds) :
    Calls Tryd.prog 15 #[bookVal B ta tc sa sc] w (BookPost B w) := by
  have hb0 : Below w.heap.size w ((w.alloc (.cells (bookCells B ta tc sa sc) 30)).alloc (.cells zero30 30)) := ((Below.refl _ w).alloc (Nat.le_refl _) _).alloc (by simp) _
  have hx0 : ((w.alloc (.cells (bookCells B ta tc sa sc) 30)).alloc (.cells zero30 30)).heap[w.heap.size]? = some (.cells (bookCells B ta tc sa sc) 30 (0, 0)) := (Below.heap_alloc _ _ _ (by simp)).trans (heap_alloc_new w _)
  have hr0 : ((w.alloc (.cells (bookCells B ta tc sa sc) 30)).alloc (.cells zero30 30)).heap[w.heap.size + 1]? = some (.cells zero30 30 (0, 0)) := heap_alloc2_new w _ _
  have hx0l := (Array.getElem?_eq_some_iff.1 hx0).1
  have hr0l := (Array.getElem?_eq_some_iff.1 hr0).1
  have hT0 := hT.same (Same.of_below hb0)
  have hS0 := hS.same (Same.of_below hb0)
  have hsz : w.heap.size + 2 ≤ ((w.alloc (.cells (bookCells B ta tc sa sc) 30)).alloc (.cells zero30 30)).heap.size := by simp
  go_enter Tryd.func15, Tryd.ntmps15
  go_wp2_with fail
  refine rl_region 7 rdOw pureOw (gOw w B ta tc sa sc) BR (by kernel_rfl) (by kernel_rfl) (by kernel_rfl) (by kernel_rfl) (by kernel_rfl) (by kernel_rfl) (fun n => BR.drawn _ n) BR.refl (fun _ _ _ => BR.trans) ?_ ?_ ?_
  · intro i _ hi vs wA wB hG hR
    match i, hi, hG with
    | 0, _, hG => exact hG
    | 1, _, hG => exact hG
    | 2, _, hG => obtain ⟨b, a, c, h1, h2, h3⟩ := hG; exact ⟨b, a, c, h1, (h2.same (Same.of_below hR)).up (Below.size hR), h3⟩
    | 3, _, hG => exact hG
    | 4, _, hG => exact hG
    | 5, _, hG => obtain ⟨b, a, c, h1, h2, h3⟩ := hG; exact ⟨b, a, c, h1, (h2.same (Same.of_below hR)).up (Below.size hR), h3⟩
    | 6, _, hG => exact hG
    | _ + 7, _, _ => trivial
  · intro i op hin ho act wA hR hF hD
    have sz : act.tmps.size = 12 := hF.size
    match i, hin, ho, hD with
    | 0, _, ho, hD =>
      cases ho
      have e1 := slot_tmps (show slotOf act 1 = .pointer (some ⟨w.heap.size, 0, none⟩) from hF.slot 1 (by kernel_rfl))
      refine rgw_val (wanted_none rfl) (.pointer (some ⟨w.heap.size, 0, none⟩)) (by simp [go_sem, e1]) (BR.refl _) ?_
      exact congrArg (fun v => [v]) (slotOf_same act 3 _ (by omega))
    | 1, _, ho, hD =>
      cases ho
      have e3 := slot_tmps (List.cons.inj (hD 0 (by decide))).1
      have hxA := (Below.block hR _ hx0l).trans hx0
      have hxc := cells_of hxA
      refine rgw_val (wanted_none rfl) (.slice ta B.tides.length tc) (by simp [go_sem, e3, hxc]) (BR.refl _) ?_
      exact congrArg (fun v => [v]) (slotOf_same act 4 _ (by omega))
    | 2, _, ho, hD =>
      cases ho
      have e4 := slot_tmps (List.cons.inj (hD 1 (by decide))).1
      refine rgw_call (wanted_none rfl) 55 #[.slice ta B.tides.length tc] (by simp [go_sem, e4]) rfl ?_
      refine (ownSpans_any w.heap.size tb tq ta tc B.tides _ (hT0.same (Same.of_below (Below.mono hR hb0.size)))).mono ?_
      rintro e wB ⟨b, a, c, rfl, hb, hT, hn⟩
      exact ⟨_, rfl, hb, b, a, c, congrArg (fun v => [v]) (slotOf_same act 5 _ (by omega)), hT, fun h => Nat.le_trans (Nat.le_trans hsz (Below.size hR)) (hn h)⟩
    | 3, _, ho, hD =>
      cases ho
      have e1 := slot_tmps (show slotOf act 1 = .pointer (some ⟨w.heap.size, 0, none⟩) from hF.slot 1 (by kernel_rfl))
      refine rgw_val (wanted_none rfl) (.pointer (some ⟨w.heap.size, 13, none⟩)) (by simp [go_sem, e1]) (BR.refl _) ?_
      exact congrArg (fun v => [v]) (slotOf_same act 6 _ (by omega))
    | 4, _, ho, hD =>
      cases ho
      have e6 := slot_tmps (List.cons.inj (hD 3 (by decide))).1
      have hxA := (Below.block hR _ hx0l).trans hx0
      have hxc := cells_of hxA
      refine rgw_val (wanted_none rfl) (.slice sa B.sounds.length sc) (by simp [go_sem, e6, hxc]) (BR.refl _) ?_
      exact congrArg (fun v => [v]) (slotOf_same act 7 _ (by omega))
    | 5, _, ho, hD =>
      cases ho
      have e7 := slot_tmps (List.cons.inj (hD 4 (by decide))).1
      refine rgw_call (wanted_none rfl) 56 #[.slice sa B.sounds.length sc] (by simp [go_sem, e7]) rfl ?_
      refine (ownSounds_any w.heap.size sb sq sa sc B.sounds _ (hS0.same (Same.of_below (Below.mono hR hb0.size)))).mono ?_
      rintro e wB ⟨b, a, c, rfl, hb, hT, hn⟩
      exact ⟨_, rfl, hb, b, a, c, congrArg (fun v => [v]) (slotOf_same act 8 _ (by omega)), hT, fun h => Nat.le_trans (Nat.le_trans hsz (Below.size hR)) (hn h)⟩
    | 6, _, ho, hD =>
      cases ho
      have e1 := slot_tmps (show slotOf act 1 = .pointer (some ⟨w.heap.size, 0, none⟩) from hF.slot 1 (by kernel_rfl))
      refine rgw_val (wanted_none rfl) (.pointer (some ⟨w.heap.size, 0, none⟩)) (by simp [go_sem, e1]) (BR.refl _) ?_
      exact congrArg (fun v => [v]) (slotOf_same act 9 _ (by omega))
    | _ + 7, hin, _, _ => exact absurd hin (by omega)
  · intro act wA hR hF hA
    have f0 : slotOf act 0 = .agg (bookCells B ta tc sa sc) := hF.slot 0 (by kernel_rfl)
    have f1 : slotOf act 1 = .pointer (some ⟨w.heap.size, 0, none⟩) := hF.slot 1 (by kernel_rfl)
    have f2 : slotOf act 2 = .pointer (some ⟨w.heap.size + 1, 0, none⟩) := hF.slot 2 (by kernel_rfl)
    have f3 : slotOf act 3 = .pointer (some ⟨w.heap.size, 0, none⟩) := (List.cons.inj (hA 0 (by decide))).1
    have f4 : slotOf act 4 = .slice ta B.tides.length tc := (List.cons.inj (hA 1 (by decide))).1
    obtain ⟨ub, ua, uc, d5, hU, hUn⟩ := hA 2 (by decide)
    have f5 : slotOf act 5 = .slice ua B.tides.length uc := (List.cons.inj d5).1
    have f6 : slotOf act 6 = .pointer (some ⟨w.heap.size, 13, none⟩) := (List.cons.inj (hA 3 (by decide))).1
    have f7 : slotOf act 7 = .slice sa B.sounds.length sc := (List.cons.inj (hA 4 (by decide))).1
    obtain ⟨vb, va, vc, d8, hV, hVn⟩ := hA 5 (by decide)
    have f8 : slotOf act 8 = .slice va B.sounds.length vc := (List.cons.inj d8).1
    have f9 : slotOf act 9 = .pointer (some ⟨w.heap.size, 0, none⟩) := (List.cons.inj (hA 6 (by decide))).1
    rw [act_eta act 12 hF.size hF.defers]
    simp only [show List.range 12 = [0, 1, 2, 3, 4, 5, 6, 7, 8, 9, 10, 11] from rfl, List.map_cons, List.map_nil, f0, f1, f2, f3, f4, f5, f6, f7, f8, f9]
    clear hA hF f0 f1 f2 f3 f4 f5 f6 f7 f8 f9
    simp only [List.drop_succ_cons, List.drop_zero]
    have hxA := (Below.block hR _ hx0l).trans hx0
    have hrA := (Below.block hR _ hr0l).trans hr0
    have hbA := hb0.trans (Below.mono hR hb0.size)
    have hxc := cells_of hxA
    have hxf := frozen_of hxA
    have hxl := (Array.getElem?_eq_some_iff.1 hxA).1
    obtain ⟨e1, e2, e3, e4⟩ := set2 hxA 0 13 (.slice ua B.tides.length uc) (.slice va B.sounds.length vc)
    have hxE : ((wA.setCell ⟨w.heap.size, 0, none⟩ (.slice ua B.tides.length uc)).setCell ⟨w.heap.size, 13, none⟩ (.slice va B.sounds.length vc)).heap[w.heap.size]? = some (.cells (bookCells B ua uc va vc) 30 (0, 0)) := e1
    have hrE : ((wA.setCell ⟨w.heap.size, 0, none⟩ (.slice ua B.tides.length uc)).setCell ⟨w.heap.size, 13, none⟩ (.slice va B.sounds.length vc)).heap[w.heap.size + 1]? = some (.cells zero30 30 (0, 0)) := (e2 (w.heap.size + 1) (by omega)).trans hrA
    have hUB := spans_but hU (fun h => by have := hUn h; omega) e2 e3
    have hVB := sounds_but hV (fun h => by have := hVn h; omega) e2 e3
    have hbB := e4 w.heap.size w (Nat.le_refl _) hbA
    clear hx0 hr0 hx0l hr0l hT0 hS0 hb0 hR hU hV e1 e2 e3 e4 hbA hxA hrA
    go_wp2_with (first | (refine ld30 rfl _ rfl _ _ rfl hxE rfl ?_) | (refine st30 rfl _ _ rfl _ (bookCells B ua uc va vc) zero30 rfl rfl hrE rfl rfl (by simp [Value.oneCell']) ?_))
    obtain ⟨wB, hwB⟩ : ∃ wB, ((wA.setCell ⟨w.heap.size, 0, none⟩ (.slice ua B.tides.length uc)).setCell ⟨w.heap.size, 13, none⟩ (.slice va B.sounds.length vc)) = wB := ⟨_, rfl⟩
    rw [hwB] at hxE hrE hUB hVB hbB ⊢
    have hrB := hrE
    have hset := SetAt.row wB (w.heap.size + 1) (bookCells B ua uc va vc)
    have hbF := hset.below (Nat.le_add_right _ 1) hbB
    refine bodyPost_ret (results_cell_row rfl _ _ (w.heap.size + 1) 30 _ (0, 0) _ rfl (setRow_heap _ _ _ _ _ _ hrB) Tryd.underlying30 rfl (by rw [size30]; rfl)) rfl ?_
    exact ⟨_, rfl, hbF, ub, 0, ua, uc, vb, 0, va, vc, rfl, span_set hUB (fun h => by have := hUn h; omega), sound_set hVB (fun h => by have := hVn h; omega)⟩
theorem ownLanding_v {B : Book} {v : Value} {w : World} (hB : BookV w v B) : Calls Tryd.prog 15 #[v] w (BookPost B w) := by
  obtain ⟨tb, tq, ta, tc, sb, sq, sa, sc, rfl, hT, hS⟩ := hB
  exact ownLanding_any B tb tq ta tc sb sq sa sc w hT hS
set_option maxRecDepth 100000 in
set_option maxHeartbeats 2000000 in
theorem keptLanding_v {B : Book} {v v' : Value} {w : World} (hB : BookV w v B) (hB' : BookV w v' B) : Calls Tryd.prog 17 #[v, v'] w fun e w' => e = .returned (.bool true) ∧ Below w.heap.size w w' := by
  obtain ⟨tb, tq, ta, tc, sb, sq, sa, sc, rfl, hT, hS⟩ := hB
  obtain ⟨tb', tq', ta', tc', sb', sq', sa', sc', rfl, hT', hS'⟩ := hB'
  have hb0 : Below w.heap.size w ((w.alloc (.cells (bookCells B ta tc sa sc) 30)).alloc (.cells (bookCells B ta' tc' sa' sc') 30)) := ((Below.refl _ w).alloc (Nat.le_refl _) _).alloc (by simp) _
  have hx0 : ((w.alloc (.cells (bookCells B ta tc sa sc) 30)).alloc (.cells (bookCells B ta' tc' sa' sc') 30)).heap[w.heap.size]? = some (.cells (bookCells B ta tc sa sc) 30 (0, 0)) := (Below.heap_alloc _ _ _ (by simp)).trans (heap_alloc_new w _)
  have hy0 : ((w.alloc (.cells (bookCells B ta tc sa sc) 30)).alloc (.cells (bookCells B ta' tc' sa' sc') 30)).heap[w.heap.size + 1]? = some (.cells (bookCells B ta' tc' sa' sc') 30 (0, 0)) := heap_alloc2_new w _ _
  go_enter Tryd.func17, Tryd.ntmps17
  go_wp2_with fail
  refine (alikeSpans_any tb tq tb' tq' ta ta' tc tc' B.tides _ ((hT.same (Same.of_below hb0)).up hb0.size) ((hT'.same (Same.of_below hb0)).up hb0.size)).mono ?_
  rintro e w1 ⟨rfl, hb1⟩
  have hb1' := hb0.trans (hb1.mono hb0.size)
  have hx1 := (hb1.block _ (Array.getElem?_eq_some_iff.1 hx0).1).trans hx0
  have hy1 := (hb1.block _ (Array.getElem?_eq_some_iff.1 hy0).1).trans hy0
  have hxc := cells_of hx1
  have hyc := cells_of hy1
  have hxl := (Array.getElem?_eq_some_iff.1 hx1).1
  have hyl := (Array.getElem?_eq_some_iff.1 hy1).1
  have q27 := fun W => eqS27 9996 B.s0.fl B.s0.fh B.s0.lo B.s0.hi B.s1.fl B.s1.fh B.s1.lo B.s1.hi W
  have q24 := fun W => eqS24 9998 B.el B.eh W
  clear hx0 hy0 hb0 hb1
  go_wp2_with fail
  refine (keptSounds_any sb sq sb' sq' sa sa' sc sc' B.sounds _ ((hS.same (Same.of_below hb1')).up hb1'.size) ((hS'.same (Same.of_below hb1')).up hb1'.size)).mono ?_
  rintro e w2 ⟨rfl, hb2⟩
  go_wp2_with fail
  go_ret
  exact ⟨rfl, hb1'.trans (hb2.mono hb1'.size)⟩
end Go.Proofs.YtkbmpkdflgimmaaDoor
