/- The contract of with: a book with a sounding more. -/
import Derived.Test.YtkbmpkdflgimmaaDoorGrow
namespace Go.Proofs.YtkbmpkdflgimmaaDoor
open Go.RowKit Go.Shelf

def rdWi (i : Nat) : List Nat := match i with
  | 0 => [7] | 1 => [8] | 2 => [9] | 3 => [10] | 4 => [11] | 5 => [12] | 6 => [13] | 7 => [14] | _ => []
def pureWi (i : Nat) : Bool := match i with
  | 0 => false | 3 => false | 5 => false | 6 => false | 8 => false | _ => true
def usWi (i : Nat) : List Nat := match i with
  | 2 => [1] | 3 => [0, 2] | 5 => [4] | 6 => [3, 5] | 8 => [6, 7] | _ => []
def kpWi (i : Nat) : Bool := match i with
  | 8 => true | _ => false
def gWi (z xb yb : Nat) (B : Book) (ta : Option Addr) (tc : Nat) (sa : Option Addr) (sc : Nat) (d : Sound) (i : Nat) (vs : List Value) (W : World) : Prop := match i with
  | 0 => ∃ g, vs = [.slice (some ⟨g, 0, none⟩) 0 0] ∧ z ≤ g ∧ W.heap[g]? = some (.cells #[] 70 (0, 0))
  | 1 => vs = [.pointer (some ⟨xb, 13, none⟩)]
  | 2 => vs = [.slice sa B.sounds.length sc]
  | 3 => ∃ v, vs = [v] ∧ W.ownsRow z 70 3 v B.sounds.length (flatS B.sounds)
  | 4 => vs = [.agg #[i64 d.hour, i64 d.shore, i64 d.deep]]
  | 5 => ∃ g, vs = [.slice (some ⟨g, 0, none⟩) 1 1] ∧ z ≤ g ∧ W.heap[g]? = some (.cells #[i64 d.hour, i64 d.shore, i64 d.deep] 70 (0, 0))
  | 6 => ∃ v, vs = [v] ∧ W.ownsRow z 70 3 v (B.sounds.length + 1) (flatS (B.sounds ++ [d]))
  | 7 => vs = [.pointer (some ⟨yb, 13, none⟩)]
  | 8 => ∃ v, W.heap[yb]? = some (.cells ((bookCells B ta tc sa sc).setIfInBounds 13 v) 30 (0, 0)) ∧ W.ownsRow z 70 3 v (B.sounds.length + 1) (flatS (B.sounds ++ [d]))
  | _ => True
def SWi (yb : Nat) (i : Nat) (w w' : World) : Prop := i ≠ 6 → KeepBut yb w w'
def addS (B : Book) (d : Sound) : Book := { B with sounds := B.sounds ++ [d] }
theorem KeepBut.below {y : Nat} {w w' : World} (h : Below w.heap.size w w') : KeepBut y w w' := fun k hk _ => h.block k hk
theorem flatS_snoc (l : List Sound) (d : Sound) : flatS (l ++ [d]) = flatS l ++ [i64 d.hour, i64 d.shore, i64 d.deep] := by simp [flatS]
theorem flatS_one (l : List Sound) : ∀ u ∈ flatS l, u.oneCell' = true := by
  intro u hu
  obtain ⟨y, _, h⟩ := List.mem_flatMap.1 hu
  simp at h
  rcases h with rfl | rfl | rfl <;> rfl
set_option maxRecDepth 100000 in
set_option maxHeartbeats 4000000 in
theorem with_any (B : Book) (d : Sound) (tb tq : Nat) (ta : Option Addr) (tc : Nat) (sb sq : Nat) (sa : Option Addr) (sc : Nat) (w : World) (hT : SpansAt w.heap.size w tb tq ta B.tides) (hS : SoundsAt w.heap.size w sb sq sa B.sounds) (hl : B.sounds.length ≤ 100) :
    Calls Tryd.prog 42 #[bookVal B ta tc sa sc, .agg #[i64 d.hour, i64 d.shore, i64 d.deep]] w (BookPost (addS B d) w) := by
  have hb0 : Below w.heap.size w ((((w.alloc (.cells (bookCells B ta tc sa sc) 30)).alloc (.cells #[i64 d.hour, i64 d.shore, i64 d.deep] 70)).alloc (.cells zero30 30)).alloc (.cells zero30 30)) := ((((Below.refl _ w).alloc (Nat.le_refl _) _).alloc (by simp) _).alloc (by simp <;> omega) _).alloc (by simp <;> omega) _
  have h1 : ((((w.alloc (.cells (bookCells B ta tc sa sc) 30)).alloc (.cells #[i64 d.hour, i64 d.shore, i64 d.deep] 70)).alloc (.cells zero30 30)).alloc (.cells zero30 30)).heap[w.heap.size]? = some (.cells (bookCells B ta tc sa sc) 30 (0, 0)) := (Below.heap_alloc _ _ _ (by simp <;> omega)).trans ((Below.heap_alloc _ _ _ (by simp <;> omega)).trans ((Below.heap_alloc _ _ _ (by simp <;> omega)).trans (heap_alloc_new w _)))
  have h2 : ((((w.alloc (.cells (bookCells B ta tc sa sc) 30)).alloc (.cells #[i64 d.hour, i64 d.shore, i64 d.deep] 70)).alloc (.cells zero30 30)).alloc (.cells zero30 30)).heap[w.heap.size + 1]? = some (.cells #[i64 d.hour, i64 d.shore, i64 d.deep] 70 (0, 0)) := (Below.heap_alloc _ _ _ (by simp <;> omega)).trans ((Below.heap_alloc _ _ _ (by simp <;> omega)).trans (heap_new_at _ _ _ (by simp)))
  have h3 : ((((w.alloc (.cells (bookCells B ta tc sa sc) 30)).alloc (.cells #[i64 d.hour, i64 d.shore, i64 d.deep] 70)).alloc (.cells zero30 30)).alloc (.cells zero30 30)).heap[w.heap.size + 2]? = some (.cells zero30 30 (0, 0)) := (Below.heap_alloc _ _ _ (by simp <;> omega)).trans (heap_new_at _ _ _ (by simp))
  have h4 : ((((w.alloc (.cells (bookCells B ta tc sa sc) 30)).alloc (.cells #[i64 d.hour, i64 d.shore, i64 d.deep] 70)).alloc (.cells zero30 30)).alloc (.cells zero30 30)).heap[w.heap.size + 3]? = some (.cells zero30 30 (0, 0)) := heap_new_at _ _ _ (by simp)
  have hx0 : (((w.alloc (.cells (bookCells B ta tc sa sc) 30)).alloc (.cells #[i64 d.hour, i64 d.shore, i64 d.deep] 70)).alloc (.cells zero30 30)).heap[w.heap.size]? = some (.cells (bookCells B ta tc sa sc) 30 (0, 0)) := (Below.heap_alloc _ _ _ (by simp <;> omega)).trans ((Below.heap_alloc _ _ _ (by simp <;> omega)).trans (heap_alloc_new w _))
  have hst := SetAt.row ((((w.alloc (.cells (bookCells B ta tc sa sc) 30)).alloc (.cells #[i64 d.hour, i64 d.shore, i64 d.deep] 70)).alloc (.cells zero30 30)).alloc (.cells zero30 30)) (w.heap.size + 3) (bookCells B ta tc sa sc)
  have hsz : ((((w.alloc (.cells (bookCells B ta tc sa sc) 30)).alloc (.cells #[i64 d.hour, i64 d.shore, i64 d.deep] 70)).alloc (.cells zero30 30)).alloc (.cells zero30 30)).heap.size = w.heap.size + 4 := by simp
  go_enter Tryd.func42, Tryd.ntmps42
  go_wp2_with (first | (refine ld30 rfl _ rfl _ _ rfl hx0 rfl ?_) | (refine st30 rfl _ _ rfl _ (bookCells B ta tc sa sc) zero30 rfl rfl h4 rfl rfl (by simp [Value.oneCell']) ?_))
  refine abs_world (fun W => w.heap.size + 4 = W.heap.size ∧ Below w.heap.size w W ∧ W.heap[w.heap.size]? = some (.cells (bookCells B ta tc sa sc) 30 (0, 0)) ∧ W.heap[w.heap.size + 1]? = some (.cells #[i64 d.hour, i64 d.shore, i64 d.deep] 70 (0, 0)) ∧ W.heap[w.heap.size + 2]? = some (.cells zero30 30 (0, 0)) ∧ W.heap[w.heap.size + 3]? = some (.cells (bookCells B ta tc sa sc) 30 (0, 0))) ⟨hsz.symm.trans hst.size.symm, hst.below (by omega) hb0, (hst.other _ (by omega)).trans h1, (hst.other _ (by omega)).trans h2, (hst.other _ (by omega)).trans h3, setRow_heap _ _ _ _ _ _ h4⟩ ?_
  clear hst hsz hb0 h1 h2 h3 h4 hx0
  rintro W2 ⟨hsz, hb2, hx2, hy2, hz2, hc2⟩
  refine rs_region rdWi pureWi usWi kpWi (gWi (w.heap.size + 4) w.heap.size (w.heap.size + 3) B ta tc sa sc d) (RY (w.heap.size + 4) (w.heap.size + 3) 13) (SWi (w.heap.size + 3)) (by kernel_rfl) (by kernel_rfl) (by kernel_rfl) (fun n => RY.drawn _ _ _ _ n) (RY.refl _ _ _) (fun _ _ _ _ _ _ => rfl) (fun _ _ _ => RY.trans) ?_ ?_ ?_
  · intro k i hk hi hn vs wA wB hG hR hS'
    match k, hk, hn, hG with
    | 0, _, hn, hG =>
      have h6 : i ≠ 6 := by rintro rfl; exact absurd (show false = true from hn) (by decide)
      obtain ⟨g, h1, h2, h3⟩ := hG
      exact ⟨g, h1, h2, (hS' h6 g (Array.getElem?_eq_some_iff.1 h3).1 (by omega)).trans h3⟩
    | 1, _, _, hG => exact hG
    | 2, _, _, hG => exact hG
    | 3, _, hn, hG =>
      have h6 : i ≠ 6 := by rintro rfl; exact absurd (show false = true from hn) (by decide)
      obtain ⟨v, h1, h2⟩ := hG
      exact ⟨v, h1, ownsRow_keep h2 (by omega) (hS' h6)⟩
    | 4, _, _, hG => exact hG
    | 5, _, hn, hG =>
      have h6 : i ≠ 6 := by rintro rfl; exact absurd (show false = true from hn) (by decide)
      obtain ⟨g, h1, h0, h2⟩ := hG
      exact ⟨g, h1, h0, (hS' h6 g (Array.getElem?_eq_some_iff.1 h2).1 (by omega)).trans h2⟩
    | 6, _, hn, hG =>
      have h6 : i ≠ 6 := by rintro rfl; exact absurd (show false = true from hn) (by decide)
      obtain ⟨v, h1, h2⟩ := hG
      exact ⟨v, h1, ownsRow_keep h2 (by omega) (hS' h6)⟩
    | 7, _, _, hG => exact hG
    | 8, _, hn, _ =>
      match i, hi, hn with
      | 0, _, hn => exact absurd (show false = true from hn) (by decide)
      | 1, _, hn => exact absurd (show false = true from hn) (by decide)
      | 2, _, hn => exact absurd (show false = true from hn) (by decide)
      | 3, _, hn => exact absurd (show false = true from hn) (by decide)
      | 4, _, hn => exact absurd (show false = true from hn) (by decide)
      | 5, _, hn => exact absurd (show false = true from hn) (by decide)
      | 6, _, hn => exact absurd (show false = true from hn) (by decide)
      | 7, _, hn => exact absurd (show false = true from hn) (by decide)
      | 8, _, hn => exact absurd (show false = true from hn) (by decide)
      | _ + 9, hi, _ => exact absurd hi (by simp)
    | _ + 9, hk, _, _ => exact absurd hk (by simp)
  · intro i op ho act wA hR hF hD
    have sz : act.tmps.size = 16 := hF.size
    have hzA : w.heap.size + 4 ≤ wA.heap.size := by have := hR.size; omega
    have hxA := (hR.old w.heap.size (by omega) (by omega)).trans hx2
    have hyA := (hR.old (w.heap.size + 1) (by omega) (by omega)).trans hy2
    have hSA := hS.same (w' := wA) ⟨by omega, fun k hk => (hR.old k (by omega) (by omega)).trans (hb2.block k hk)⟩
    have hxc := cells_of hxA
    have hyc := cells_of hyA
    obtain ⟨i0, hi, hz0, hz1, hzz⟩ := info_parts info70
    have hsl := hS.len
    match i, ho, hD with
    | 0, ho, hD =>
      cases ho
      refine rsw_wp (wanted_none rfl) rfl (wp_of_run (v := .slice (some ⟨wA.heap.size, 0, none⟩) 0 0) (w' := wA.alloc (.cells #[] 70)) (by simp [go_sem]) ?_)
      exact ⟨_, rfl, RY.of_below hzA ((Below.refl _ _).alloc (Nat.le_refl _) _), fun _ => KeepBut.below ((Below.refl _ _).alloc (Nat.le_refl _) _), _, congrArg (fun v => [v]) (slotOf_same act 7 _ (by omega)), hzA, heap_alloc_new _ _⟩
    | 1, ho, hD =>
      cases ho
      have e2 := slot_tmps (show slotOf act 2 = .pointer (some ⟨w.heap.size, 0, none⟩) from hF.slot 2 (by kernel_rfl))
      exact rsw_val (wanted_none rfl) (.pointer (some ⟨w.heap.size, 13, none⟩)) (by simp [go_sem, e2]) (RY.refl _ _ _ _) (fun _ _ _ _ => rfl) (congrArg (fun v => [v]) (slotOf_same act 8 _ (by omega)))
    | 2, ho, hD =>
      cases ho
      have e8 := slot_tmps (List.cons.inj (hD 1 (by decide))).1
      exact rsw_val (wanted_none rfl) (.slice sa B.sounds.length sc) (by simp [go_sem, e8, hxc]) (RY.refl _ _ _ _) (fun _ _ _ _ => rfl) (congrArg (fun v => [v]) (slotOf_same act 9 _ (by omega)))
    | 3, ho, hD =>
      cases ho
      obtain ⟨g, d7, hzg, hg⟩ := hD 0 (by decide)
      have E7 : act.eval (.tmp 7) = .slice (some ⟨g, 0, none⟩) 0 0 := (List.cons.inj d7).1
      have E9 : act.eval (.tmp 9) = .slice sa B.sounds.length sc := (List.cons.inj (hD 2 (by decide))).1
      by_cases h0 : B.sounds = []
      · have hlen0 : B.sounds.length = 0 := by simp [h0]
        have hown : wA.ownsRow (w.heap.size + 4) 70 3 (.slice (some ⟨g, 0, none⟩) 0 0) B.sounds.length (flatS B.sounds) := by
          rw [h0]
          exact ⟨rfl, .inr ⟨g, 0, _, rfl, hzg, hg, Nat.le_refl _, Nat.zero_le _, rfl, rfl⟩⟩
        refine rsw_wp (wanted_none rfl) rfl (wp_of_run (v := .slice (some ⟨g, 0, none⟩) 0 0) (w' := wA) (ex_append _ _ 28 rfl ?_) ?_)
        · rw [E7, E9, hlen0]
          cases sa <;> simp [Builtin.append_, run_underlying Tryd.underlying28, sizeOf, typeInfo, hi, Builtin.lenOf, Builtin.firstCells, loadCells, loadCellsFrom, storeCells]
        · exact ⟨_, rfl, RY.refl _ _ _ _, fun _ _ _ _ => rfl, _, congrArg (fun v => [v]) (slotOf_same act 10 _ (by omega)), hown⟩
      · obtain rfl := hS.at_ h0
        have hpos : 0 < B.sounds.length := List.length_pos_iff.2 h0
        obtain ⟨v', w', hrun, r1, r2⟩ := run_append_arg_grows (P := Tryd.prog) wA 28 28 70 i0 (.agg #[i64 0, i64 0, i64 0]) 3 24 Tryd.underlying28 hi hz0 hz1 hzz rfl (by decide) ⟨g, 0, none⟩ 0 0 [] rfl (fun j u h => by cases h) ⟨sb, sq, none⟩ B.sounds.length sc (flatS B.sounds) (flatS_len _) (flatS_cells hSA) (by omega) (by unfold maxLen; omega) (by omega)
        refine rsw_wp (wanted_none rfl) rfl (wp_of_run (v := v') (w' := w') (ex_append _ _ 28 rfl ?_) ?_)
        · rw [E7, E9]
          exact hrun
        · exact ⟨_, rfl, RY.of_grown hzA (by omega) (fun k hk => by cases hk) r2, fun _ k hk _ => r2.block k hk (by simp), _, congrArg (fun v => [v]) (slotOf_same act 10 _ (by omega)), ownsRow_down (by simpa using r1) hzA⟩
    | 4, ho, hD =>
      cases ho
      have e3 := slot_tmps (show slotOf act 3 = .pointer (some ⟨w.heap.size + 1, 0, none⟩) from hF.slot 3 (by kernel_rfl))
      exact rsw_val (wanted_none rfl) (.agg #[i64 d.hour, i64 d.shore, i64 d.deep]) (by simp [go_sem, e3, hyc]) (RY.refl _ _ _ _) (fun _ _ _ _ => rfl) (congrArg (fun v => [v]) (slotOf_same act 11 _ (by omega)))
    | 5, ho, hD =>
      cases ho
      have e11 := slot_tmps (List.cons.inj (hD 4 (by decide))).1
      refine rsw_wp (wanted_none rfl) rfl (wp_of_run (v := .slice (some ⟨wA.heap.size, 0, none⟩) 1 1) (w' := wA.alloc (.cells #[i64 d.hour, i64 d.shore, i64 d.deep] 70)) (by simp [go_sem, e11]) ?_)
      exact ⟨_, rfl, RY.of_below hzA ((Below.refl _ _).alloc (Nat.le_refl _) _), fun _ => KeepBut.below ((Below.refl _ _).alloc (Nat.le_refl _) _), _, congrArg (fun v => [v]) (slotOf_same act 12 _ (by omega)), hzA, heap_alloc_new _ _⟩
    | 6, ho, hD =>
      cases ho
      obtain ⟨v, d10, hown⟩ := hD 3 (by decide)
      obtain ⟨g, d12, _, hg⟩ := hD 5 (by decide)
      have hgc := cells_of hg
      have hnews : ∀ j u, [i64 d.hour, i64 d.shore, i64 d.deep][j]? = some u → wA.cell? ((⟨g, 0, none⟩ : Addr).add j) = some u := fun j u hu => by
        rw [addr_add, hgc]
        simpa using hu
      obtain ⟨v', w', hrun, r1, r2, _⟩ := run_append_own (P := Tryd.prog) wA (w.heap.size + 4) 28 28 70 i0 (.agg #[i64 0, i64 0, i64 0]) 3 24 Tryd.underlying28 hi hz0 hz1 hzz rfl (by decide) v B.sounds.length (flatS B.sounds) hown ⟨g, 0, none⟩ 1 1 [i64 d.hour, i64 d.shore, i64 d.deep] rfl hnews (by simp [Value.oneCell']) (by unfold maxLen; omega) (by omega) hzA
      refine rsw_wp (wanted_none rfl) rfl (wp_of_run (v := v') (w' := w') (ex_append _ _ 28 rfl ?_) ?_)
      · rw [show act.eval (.tmp 10) = _ from (List.cons.inj d10).1, show act.eval (.tmp 12) = _ from (List.cons.inj d12).1]
        exact hrun
      · exact ⟨_, rfl, RY.of_grown hzA (by omega) (fun k hk => (hown.lt k hk).1) r2, fun h => absurd rfl h, _, congrArg (fun v => [v]) (slotOf_same act 13 _ (by omega)), by rw [flatS_snoc]; exact r1⟩
    | 7, ho, hD =>
      cases ho
      have e5 := slot_tmps (show slotOf act 5 = .pointer (some ⟨w.heap.size + 3, 0, none⟩) from hF.slot 5 (by kernel_rfl))
      exact rsw_val (wanted_none rfl) (.pointer (some ⟨w.heap.size + 3, 13, none⟩)) (by simp [go_sem, e5]) (RY.refl _ _ _ _) (fun _ _ _ _ => rfl) (congrArg (fun v => [v]) (slotOf_same act 14 _ (by omega)))
    | 8, ho, hD =>
      cases ho
      obtain ⟨v, d13, hown⟩ := hD 6 (by decide)
      have e13 := slot_tmps (List.cons.inj d13).1
      have e14 := slot_tmps (List.cons.inj (hD 7 (by decide))).1
      obtain ⟨c', hc', hcs, hcj⟩ := hR.book _ hc2
      have hcc := cells_of hc'
      have hcf := frozen_of hc'
      have h13 : c'[13]? = some (c'[13]'(by rw [hcs]; exact (show 13 < 14 by decide))) := Array.getElem?_eq_getElem _
      obtain ⟨ao, n', cp, rfl⟩ : ∃ ao n' cp, v = .slice ao n' cp := by rcases hown.2 with ⟨rfl, _⟩ | ⟨_, _, _, rfl, _⟩ <;> exact ⟨_, _, _, rfl⟩
      refine rsw_wp (wanted_none rfl) rfl (wp_of_skip (w' := wA.setCell ⟨w.heap.size + 3, 13, none⟩ (.slice ao n' cp)) (by simp [go_sem, e13, e14, hcc, hcf, h13]) ?_)
      refine ⟨_, rfl, RY.set hc', fun _ k hk hky => Below.heap_setCell _ _ _ k hky, _, ?_, ownsRow_keep (y := w.heap.size + 3) hown (by omega) (fun k hk hky => Below.heap_setCell _ _ _ k hky)⟩
      rw [set_book' 13 hc' _, set_same hcs hcj]
    | _ + 9, ho, _ => cases ho
  · intro act wA hR hF hA
    obtain ⟨v, hc, hown⟩ := hA 8 (by decide) rfl
    have f4 : slotOf act 4 = .pointer (some ⟨w.heap.size + 2, 0, none⟩) := hF.slot 4 (by kernel_rfl)
    have f5 : slotOf act 5 = .pointer (some ⟨w.heap.size + 3, 0, none⟩) := hF.slot 5 (by kernel_rfl)
    rw [act_eta act 16 hF.size hF.defers]
    simp only [show List.range 16 = [0, 1, 2, 3, 4, 5, 6, 7, 8, 9, 10, 11, 12, 13, 14, 15] from rfl, List.map_cons, List.map_nil, f4, f5]
    clear hA hF f4 f5
    have hzA := (hR.old (w.heap.size + 2) (by omega) (by omega)).trans hz2
    have hbA : Below w.heap.size w wA := ⟨hR.os.trans hb2.os, hR.tape.trans hb2.tape, hR.output.trans hb2.output, Nat.le_trans hb2.size hR.size, fun k hk => (hR.old k (by omega) (by omega)).trans (hb2.block k hk)⟩
    have hown' : wA.ownsRow (w.heap.size + 4) 70 3 v (B.sounds ++ [d]).length (flatS (B.sounds ++ [d])) := by simpa using hown
    obtain ⟨g, a, c, rfl, hSn⟩ := sounds_row hown' (by simp; omega)
    have hne : g ≠ w.heap.size + 2 := fun e => by
      have ha := hSn.at_ (by simp)
      subst ha
      have := (hown'.lt g rfl).1
      omega
    have hcells : (bookCells B ta tc sa sc).setIfInBounds 13 (.slice a (B.sounds ++ [d]).length c) = bookCells (addS B d) ta tc a c := rfl
    rw [hcells] at hc
    have hset := SetAt.row wA (w.heap.size + 2) (bookCells (addS B d) ta tc a c)
    have hbF := hset.below (by omega) hbA
    have hTF := (hT.same (Same.of_below hbF)).up hbF.size
    have hSF := sound_set (z := w.heap.size + 2) (cs := bookCells (addS B d) ta tc a c) hSn (fun _ => hne)
    clear hown hown' hSn hR hS hT hb2 hx2 hy2 hz2 hc2 hcells
    go_wp2_with (first | (refine ld30 rfl _ rfl _ _ rfl hc rfl ?_) | (refine st30 rfl _ _ rfl _ (bookCells (addS B d) ta tc a c) zero30 rfl rfl hzA rfl rfl (by simp [Value.oneCell']) ?_))
    refine bodyPost_ret (results_cell_row rfl _ _ (w.heap.size + 2) 30 _ (0, 0) _ rfl (setRow_heap _ _ _ _ _ _ hzA) Tryd.underlying30 rfl (by rw [size30]; rfl)) rfl ?_
    exact ⟨_, rfl, hbF, tb, tq, ta, tc, g, 0, a, c, rfl, hTF, hSF⟩
theorem with_v {B : Book} {v : Value} {w : World} (hB : BookV w v B) (d : Sound) (hl : B.sounds.length ≤ 100) : Calls Tryd.prog 42 #[v, .agg #[i64 d.hour, i64 d.shore, i64 d.deep]] w (BookPost (addS B d) w) := by
  obtain ⟨tb, tq, ta, tc, sb, sq, sa, sc, rfl, hT, hS⟩ := hB
  exact with_any B d tb tq ta tc sb sq sa sc w hT hS hl
end Go.Proofs.YtkbmpkdflgimmaaDoor
