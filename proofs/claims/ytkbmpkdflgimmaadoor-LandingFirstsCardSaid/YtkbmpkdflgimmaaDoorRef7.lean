/- Contracts of the references' Hull and ends. (Printed by genref7.py.) -/
import Derived.Test.YtkbmpkdflgimmaaDoorRef6
namespace Go.Proofs.YtkbmpkdflgimmaaDoor
open Go.RowKit Go.Shelf

theorem hull_any (a b c d : Int) (w : World) : Calls Tryd.prog 103 #[.agg #[i64 a, i64 b], .agg #[i64 c, i64 d]] w (RangePost (min a c) (max b d) w) := by
  have hb0 : Below w.heap.size w (((w.alloc (.cells #[i64 a, i64 b] 24)).alloc (.cells #[i64 c, i64 d] 24)).alloc (.cells #[i64 0, i64 0] 24)) := (((Below.refl _ w).alloc (Nat.le_refl _) _).alloc (by simp <;> omega) _).alloc (by simp <;> omega) _
  have hz0 : (((w.alloc (.cells #[i64 a, i64 b] 24)).alloc (.cells #[i64 c, i64 d] 24)).alloc (.cells #[i64 0, i64 0] 24)).heap[w.heap.size + 2]? = some (.cells #[i64 0, i64 0] 24 (0, 0)) := heap_new_at _ _ _ (by simp)
  by_cases h1 : c < a
  · have hm : Hid (min a c = c) := Lib.hid (by omega)
    by_cases h2 : b < d
    · have hM : Hid (max b d = d) := Lib.hid (by omega)
      go_enter Tryd.func103, Tryd.ntmps103
      go_wp2_with fail
      refine (range_any _ _ _).mono ?_
      rintro e w1 ⟨rfl, hb1⟩
      have hz1 := (hb1.block _ (Array.getElem?_eq_some_iff.1 hz0).1).trans hz0
      have hc := cells_of hz1
      have hf := frozen_of hz1
      have hl := (Array.getElem?_eq_some_iff.1 hz1).1
      have hbb := hb0.trans (hb1.mono hb0.size)
      clear hb0 hb1 hz0
      go_wp2_with fail
      have hset := set_two1 (set_two0 hz1 (i64 c)) (i64 d)
      have hcs := cells_of hset
      refine bodyPost_ret (v := .agg #[i64 c, i64 d]) (by simp [results, Tryd.f103, go_sem, hcs]) rfl ⟨by rw [hm.out, hM.out], ?_⟩
      exact (hbb.setCell (p := ⟨w.heap.size + 2, 0, none⟩) (Nat.le_add_right _ 2) _).setCell (p := ⟨w.heap.size + 2, 1, none⟩) (Nat.le_add_right _ 2) _
    · have hM : Hid (max b d = b) := Lib.hid (by omega)
      go_enter Tryd.func103, Tryd.ntmps103
      go_wp2_with fail
      refine (range_any _ _ _).mono ?_
      rintro e w1 ⟨rfl, hb1⟩
      have hz1 := (hb1.block _ (Array.getElem?_eq_some_iff.1 hz0).1).trans hz0
      have hc := cells_of hz1
      have hf := frozen_of hz1
      have hl := (Array.getElem?_eq_some_iff.1 hz1).1
      have hbb := hb0.trans (hb1.mono hb0.size)
      clear hb0 hb1 hz0
      go_wp2_with fail
      have hset := set_two1 (set_two0 hz1 (i64 c)) (i64 b)
      have hcs := cells_of hset
      refine bodyPost_ret (v := .agg #[i64 c, i64 b]) (by simp [results, Tryd.f103, go_sem, hcs]) rfl ⟨by rw [hm.out, hM.out], ?_⟩
      exact (hbb.setCell (p := ⟨w.heap.size + 2, 0, none⟩) (Nat.le_add_right _ 2) _).setCell (p := ⟨w.heap.size + 2, 1, none⟩) (Nat.le_add_right _ 2) _
  · have hm : Hid (min a c = a) := Lib.hid (by omega)
    by_cases h2 : b < d
    · have hM : Hid (max b d = d) := Lib.hid (by omega)
      go_enter Tryd.func103, Tryd.ntmps103
      go_wp2_with fail
      refine (range_any _ _ _).mono ?_
      rintro e w1 ⟨rfl, hb1⟩
      have hz1 := (hb1.block _ (Array.getElem?_eq_some_iff.1 hz0).1).trans hz0
      have hc := cells_of hz1
      have hf := frozen_of hz1
      have hl := (Array.getElem?_eq_some_iff.1 hz1).1
      have hbb := hb0.trans (hb1.mono hb0.size)
      clear hb0 hb1 hz0
      go_wp2_with fail
      have hset := set_two1 (set_two0 hz1 (i64 a)) (i64 d)
      have hcs := cells_of hset
      refine bodyPost_ret (v := .agg #[i64 a, i64 d]) (by simp [results, Tryd.f103, go_sem, hcs]) rfl ⟨by rw [hm.out, hM.out], ?_⟩
      exact (hbb.setCell (p := ⟨w.heap.size + 2, 0, none⟩) (Nat.le_add_right _ 2) _).setCell (p := ⟨w.heap.size + 2, 1, none⟩) (Nat.le_add_right _ 2) _
    · have hM : Hid (max b d = b) := Lib.hid (by omega)
      go_enter Tryd.func103, Tryd.ntmps103
      go_wp2_with fail
      refine (range_any _ _ _).mono ?_
      rintro e w1 ⟨rfl, hb1⟩
      have hz1 := (hb1.block _ (Array.getElem?_eq_some_iff.1 hz0).1).trans hz0
      have hc := cells_of hz1
      have hf := frozen_of hz1
      have hl := (Array.getElem?_eq_some_iff.1 hz1).1
      have hbb := hb0.trans (hb1.mono hb0.size)
      clear hb0 hb1 hz0
      go_wp2_with fail
      have hset := set_two1 (set_two0 hz1 (i64 a)) (i64 b)
      have hcs := cells_of hset
      refine bodyPost_ret (v := .agg #[i64 a, i64 b]) (by simp [results, Tryd.f103, go_sem, hcs]) rfl ⟨by rw [hm.out, hM.out], ?_⟩
      exact (hbb.setCell (p := ⟨w.heap.size + 2, 0, none⟩) (Nat.le_add_right _ 2) _).setCell (p := ⟨w.heap.size + 2, 1, none⟩) (Nat.le_add_right _ 2) _
/-- The least and the greatest of the first, of the first of all on. -/
def eLo (l : List Int) (k : Nat) : Int := (l.take k).foldl min (l.headD 0)
def eHi (l : List Int) (k : Nat) : Int := (l.take k).foldl max (l.headD 0)
theorem eLo_succ (l : List Int) (k : Nat) (h : k < l.length) : eLo l (k + 1) = min (eLo l k) l[k] := by
  unfold eLo
  rw [List.take_succ_eq_append_getElem h, List.foldl_append]
  rfl
theorem eHi_succ (l : List Int) (k : Nat) (h : k < l.length) : eHi l (k + 1) = max (eHi l k) l[k] := by
  unfold eHi
  rw [List.take_succ_eq_append_getElem h, List.foldl_append]
  rfl
theorem eLo_all (l : List Int) : eLo l l.length = minL l := by
  unfold eLo minL
  rw [List.take_length]
  cases l with
  | nil => rfl
  | cons a l => simp
theorem eHi_all (l : List Int) : eHi l l.length = maxL (l.head?.getD 0) l := by
  unfold eHi maxL
  rw [List.take_length]
  cases l <;> rfl
structure EnI (w : World) (l : List Int) (la : Option Addr) (lc p q k : Nat) (a : Act) (W : World) : Prop where
  size : a.tmps.size = 23
  defers : a.defers = []
  s0 : slotOf a 0 = .slice la l.length lc
  s2 : slotOf a 2 = .pointer (some ⟨p, 0, none⟩)
  s3 : slotOf a 3 = .pointer (some ⟨q, 0, none⟩)
  s4 : slotOf a 4 = i64 k
  hb : Below w.heap.size w W
  hp : W.heap[p]? = some (.cells #[i64 0, i64 0] 24 (0, 0))
  hq : W.heap[q]? = some (.cells #[i64 (eLo l k), i64 (eHi l k)] 24 (0, 0))
def rdEn5 (i : Nat) : List Nat := match i with
  | 0 => [15] | 1 => [16] | 2 => [17] | 3 => [18] | 4 => [19] | 5 => [20] | 6 => [21] | _ => []
def pureEn5 (i : Nat) : Bool := match i with
  | 5 => false | 6 => false | _ => true
def gEn5 (l : List Int) (la : Option Addr) (lc b o k : Nat) (x : Int) (i : Nat) (vs : List Value) (_ : World) : Prop := match i with
  | 0 => vs = [.agg #[i64 (eLo l k), i64 (eHi l k)]]
  | 1 => vs = [.slice la l.length lc]
  | 2 => vs = [i64 k]
  | 3 => vs = [.pointer (some ⟨b, o + k, none⟩)]
  | 4 => vs = [i64 x]
  | 5 => vs = [.agg #[i64 x, i64 x]]
  | 6 => vs = [.agg #[i64 (min (eLo l k) x), i64 (max (eHi l k) x)]]
  | _ => True
set_option maxRecDepth 100000 in
set_option maxHeartbeats 4000000 in
theorem endsR_any (b o : Nat) (la : Option Addr) (lc : Nat) (l : List Int) (w : World) (hL : IntsAt w.heap.size w b o la l) (hne : l ≠ []) (hlen : l.length ≤ 1000) : Calls Tryd.prog 90 #[.slice la l.length lc] w (EndsPost l w) := by
  have hpos : 0 < l.length := List.length_pos_iff.2 hne
  have hb0 : Below w.heap.size w (w.alloc (.cells #[i64 0, i64 0] 24)) := (Below.refl _ w).alloc (Nat.le_refl _) _
  have hp0 : (w.alloc (.cells #[i64 0, i64 0] 24)).heap[w.heap.size]? = some (.cells #[i64 0, i64 0] 24 (0, 0)) := heap_alloc_new w _
  have hi0 : ∀ W, (Instr.indexAt 40 (.slice la l.length lc) (.int .i64 0)).run Tryd.prog W = .ok (.pointer (some ⟨b, o, none⟩)) W := fun W => by simpa using idx40 (k := 0) W (hL.at_ hne) hpos
  have hc0 := (hL.same (Same.of_below hb0)).cell 0 hpos
  obtain ⟨x0, hx0⟩ : ∃ x0, Hid (l[0] = x0) := ⟨_, Lib.hid rfl⟩
  rw [hx0.out, Nat.add_zero] at hc0
  have hhd : Hid (l.headD 0 = x0) := Lib.hid (by rw [← hx0.out]; cases l with | nil => exact absurd rfl hne | cons a l => rfl)
  go_enter Tryd.func90, Tryd.ntmps90
  go_wp2_with fail
  refine (point_any _ _).mono ?_
  rintro e w1 ⟨rfl, hb1⟩
  have hb1' := hb0.trans (hb1.mono hb0.size)
  have hp1 := (hb1.block _ (Array.getElem?_eq_some_iff.1 hp0).1).trans hp0
  clear hb0 hp0 hb1 hc0
  go_wp2_with fail
  have hbn : Below w1.heap.size w1 (w1.alloc (.cells #[i64 x0, i64 x0] 24)) := (Below.refl _ w1).alloc (Nat.le_refl _) _
  have hq2 := heap_alloc_new w1 (.cells #[i64 x0, i64 x0] 24)
  have hp2 := (hbn.block _ (Array.getElem?_eq_some_iff.1 hp1).1).trans hp1
  have hb2 := hb1'.trans (hbn.mono hb1'.size)
  have hpl := (Array.getElem?_eq_some_iff.1 hp1).1
  obtain ⟨w2, hw2⟩ : ∃ w2, w1.alloc (.cells #[i64 x0, i64 x0] 24) = w2 := ⟨_, rfl⟩
  obtain ⟨q, hqe⟩ : ∃ q, w1.heap.size = q := ⟨_, rfl⟩
  obtain ⟨p, hpe⟩ : ∃ p, w.heap.size = p := ⟨_, rfl⟩
  rw [hw2] at hq2 hp2 hb2 ⊢
  rw [hqe] at hq2 hpl ⊢
  rw [hpe] at hp2 hpl ⊢
  have hpw : w.heap.size ≤ p := Nat.le_of_eq hpe
  clear hw2 hqe hbn hp1 hb1' hi0
  refine wp_loop (fun act W => ∃ k : Nat, k ≤ l.length ∧ EnI w l la lc p q k act W) (fun act _ => l.length - (intOf (slotOf act 4)).toNat) ?_ ?_
  · exact ⟨0, Nat.zero_le _, rfl, rfl, rfl, rfl, rfl, rfl, hb2, hp2, by have h1 : eLo l 0 = x0 := hhd.out; have h2 : eHi l 0 = x0 := hhd.out; rw [h1, h2]; exact hq2⟩
  · clear hq2 hp2 hb2
    rintro act W9 ⟨k, hk, hsz, hdf, s0, s2, s3, s4, hb9, hp9, hq9⟩
    rw [act_eta act 23 hsz hdf]
    simp only [show List.range 23 = [0, 1, 2, 3, 4, 5, 6, 7, 8, 9, 10, 11, 12, 13, 14, 15, 16, 17, 18, 19, 20, 21, 22] from rfl, List.map_cons, List.map_nil, s0, s2, s3, s4]
    have hq9l := (Array.getElem?_eq_some_iff.1 hq9).1
    by_cases hlt : k < l.length
    · have hlt' : (k : Int) < (l.length : Int) := by omega
      have hL9 := (hL.same (Same.of_below hb9)).up hb9.size
      have hi40 := fun W => idx40 (n := l.length) (c := lc) (k := k) W (hL9.at_ hne) hlt
      obtain ⟨x, hxe⟩ : ∃ x, Hid (l[k] = x) := ⟨_, Lib.hid rfl⟩
      have hs1 : Hid (eLo l (k + 1) = min (eLo l k) x) := Lib.hid (by rw [← hxe.out]; exact eLo_succ l k hlt)
      have hs2 : Hid (eHi l (k + 1) = max (eHi l k) x) := Lib.hid (by rw [← hxe.out]; exact eHi_succ l k hlt)
      go_wp2_with fail
      refine rl_region 7 rdEn5 pureEn5 (gEn5 l la lc b o k x) BR (by kernel_rfl) (by kernel_rfl) (by kernel_rfl) (by kernel_rfl) (by kernel_rfl) (by kernel_rfl) (fun n => BR.drawn _ n) BR.refl (fun _ _ _ => BR.trans) ?_ ?_ ?_
      · intro i _ hi vs wA wB hG hR
        match i, hi, hG with
        | 0, _, hG => exact hG
        | 1, _, hG => exact hG
        | 2, _, hG => exact hG
        | 3, _, hG => exact hG
        | 4, _, hG => exact hG
        | 5, _, hG => exact hG
        | 6, _, hG => exact hG
        | _ + 7, _, _ => trivial
      · intro i op hin ho act wA hR hF hD
        have sz : act.tmps.size = 23 := hF.size
        match i, hin, ho, hD with
        | 0, _, ho, hD =>
          cases ho
          have e3 := slot_tmps (show slotOf act 3 = .pointer (some ⟨q, 0, none⟩) from hF.slot 3 (by kernel_rfl))
          have hqA := (Below.block hR _ hq9l).trans hq9
          have hqc := cells_of hqA
          refine rgw_val (wanted_none rfl) (.agg #[i64 (eLo l k), i64 (eHi l k)]) (by simp [go_sem, e3, hqc]) (BR.refl _) ?_
          exact congrArg (fun v => [v]) (slotOf_same act 15 _ (by omega))
        | 1, _, ho, hD =>
          cases ho
          have e0 := slot_tmps (show slotOf act 0 = .slice la l.length lc from hF.slot 0 (by kernel_rfl))
          refine rgw_val (wanted_none rfl) (.slice la l.length lc) (by simp [go_sem, e0]) (BR.refl _) ?_
          exact congrArg (fun v => [v]) (slotOf_same act 16 _ (by omega))
        | 2, _, ho, hD =>
          cases ho
          have e4 := slot_tmps (show slotOf act 4 = i64 k from hF.slot 4 (by kernel_rfl))
          refine rgw_val (wanted_none rfl) (i64 k) (by simp [go_sem, e4]) (BR.refl _) ?_
          exact congrArg (fun v => [v]) (slotOf_same act 17 _ (by omega))
        | 3, _, ho, hD =>
          cases ho
          have e16 := slot_tmps (List.cons.inj (hD 1 (by decide))).1
          have e17 := slot_tmps (List.cons.inj (hD 2 (by decide))).1
          refine rgw_val (wanted_none rfl) (.pointer (some ⟨b, o + k, none⟩)) (by simp [go_sem, e16, e17, hi40]) (BR.refl _) ?_
          exact congrArg (fun v => [v]) (slotOf_same act 18 _ (by omega))
        | 4, _, ho, hD =>
          cases ho
          have e18 := slot_tmps (List.cons.inj (hD 3 (by decide))).1
          have hLA := hL9.same (Same.of_below hR)
          have hlc := hLA.cell k hlt
          rw [hxe.out] at hlc
          refine rgw_val (wanted_none rfl) (i64 x) (by simp [go_sem, e18, hlc]) (BR.refl _) ?_
          exact congrArg (fun v => [v]) (slotOf_same act 19 _ (by omega))
        | 5, _, ho, hD =>
          cases ho
          have e19 := slot_tmps (List.cons.inj (hD 4 (by decide))).1
          refine rgw_call (wanted_none rfl) 37 #[i64 x] (by simp [go_sem, e19]) rfl ?_
          refine (point_any _ _).mono ?_
          rintro e wB ⟨rfl, hb⟩
          exact ⟨_, rfl, hb, congrArg (fun v => [v]) (slotOf_same act 20 _ (by omega))⟩
        | 6, _, ho, hD =>
          cases ho
          have e15 := slot_tmps (List.cons.inj (hD 0 (by decide))).1
          have e20 := slot_tmps (List.cons.inj (hD 5 (by decide))).1
          refine rgw_call (wanted_none rfl) 103 #[.agg #[i64 (eLo l k), i64 (eHi l k)], .agg #[i64 x, i64 x]] (by simp [go_sem, e15, e20]) rfl ?_
          refine (hull_any _ _ _ _ _).mono ?_
          rintro e wB ⟨rfl, hb⟩
          exact ⟨_, rfl, hb, congrArg (fun v => [v]) (slotOf_same act 21 _ (by omega))⟩
        | _ + 7, hin, _, _ => exact absurd hin (by omega)
      · intro act wA hR hF hA
        have f0 : slotOf act 0 = .slice la l.length lc := hF.slot 0 (by kernel_rfl)
        have f2 : slotOf act 2 = .pointer (some ⟨p, 0, none⟩) := hF.slot 2 (by kernel_rfl)
        have f3 : slotOf act 3 = .pointer (some ⟨q, 0, none⟩) := hF.slot 3 (by kernel_rfl)
        have f4 : slotOf act 4 = i64 k := hF.slot 4 (by kernel_rfl)
        have f15 : slotOf act 15 = .agg #[i64 (eLo l k), i64 (eHi l k)] := (List.cons.inj (hA 0 (by decide))).1
        have f16 : slotOf act 16 = .slice la l.length lc := (List.cons.inj (hA 1 (by decide))).1
        have f17 : slotOf act 17 = i64 k := (List.cons.inj (hA 2 (by decide))).1
        have f18 : slotOf act 18 = .pointer (some ⟨b, o + k, none⟩) := (List.cons.inj (hA 3 (by decide))).1
        have f19 : slotOf act 19 = i64 x := (List.cons.inj (hA 4 (by decide))).1
        have f20 : slotOf act 20 = .agg #[i64 x, i64 x] := (List.cons.inj (hA 5 (by decide))).1
        have f21 : slotOf act 21 = .agg #[i64 (min (eLo l k) x), i64 (max (eHi l k) x)] := (List.cons.inj (hA 6 (by decide))).1
        rw [act_eta act 23 hF.size hF.defers]
        simp only [show List.range 23 = [0, 1, 2, 3, 4, 5, 6, 7, 8, 9, 10, 11, 12, 13, 14, 15, 16, 17, 18, 19, 20, 21, 22] from rfl, List.map_cons, List.map_nil, f0, f2, f3, f4, f15, f16, f17, f18, f19, f20, f21]
        clear hA hF f0 f2 f3 f4 f15 f16 f17 f18 f19 f20 f21
        simp only [List.drop_succ_cons, List.drop_zero]
        have hqA := (Below.block hR _ hq9l).trans hq9
        have hpA := (Below.block hR _ (Array.getElem?_eq_some_iff.1 hp9).1).trans hp9
        have hqc := cells_of hqA
        have hqf := frozen_of hqA
        have hql := (Array.getElem?_eq_some_iff.1 hqA).1
        have hset := set_two1 (set_two0 hqA (i64 (min (eLo l k) x))) (i64 (max (eHi l k) x))
        have hbA := hb9.trans (Below.mono hR hb9.size)
        have hbE : Below w.heap.size w ((wA.setCell ⟨q, 0, none⟩ (i64 (min (eLo l k) x))).setCell ⟨q, 1, none⟩ (i64 (max (eHi l k) x))) := (hbA.setCell (p := ⟨q, 0, none⟩) (by show w.heap.size ≤ q; omega) _).setCell (p := ⟨q, 1, none⟩) (by show w.heap.size ≤ q; omega) _
        have hpE : ((wA.setCell ⟨q, 0, none⟩ (i64 (min (eLo l k) x))).setCell ⟨q, 1, none⟩ (i64 (max (eHi l k) x))).heap[p]? = some (.cells #[i64 0, i64 0] 24 (0, 0)) := (Below.heap_setCell _ ⟨q, 1, none⟩ _ p (by show p ≠ q; omega)).trans ((Below.heap_setCell _ ⟨q, 0, none⟩ _ p (by show p ≠ q; omega)).trans hpA)
        have hsz' : ((wA.setCell ⟨q, 0, none⟩ (i64 (min (eLo l k) x))).setCell ⟨q, 1, none⟩ (i64 (max (eHi l k) x))).heap.size = wA.heap.size := by simp [World.setCell]
        clear hR hbA hqA hpA
        go_wp2_with fail
        refine ⟨⟨k + 1, by omega, rfl, rfl, rfl, rfl, rfl, congrArg (Value.int .i64) (Int.natCast_succ k).symm, hbE, hpE, by rw [hs1.out, hs2.out]; exact hset⟩, ?_⟩
        show l.length - ((k : Int) + 1).toNat < l.length - (k : Int).toNat
        omega
    · have hlt' : ¬ (k : Int) < (l.length : Int) := by omega
      obtain rfl : k = l.length := by omega
      have hqc := cells_of hq9
      have hpc := cells_of hp9
      have hpf := frozen_of hp9
      have hpl9 := (Array.getElem?_eq_some_iff.1 hp9).1
      have hset := set_two1 (set_two0 hp9 (i64 (eLo l l.length))) (i64 (eHi l l.length))
      have hcs := cells_of hset
      have hE1 := Lib.hid (eLo_all l)
      have hE2 := Lib.hid (eHi_all l)
      go_wp2_with fail
      refine bodyPost_ret (v := .agg #[i64 (eLo l l.length), i64 (eHi l l.length)]) (by simp [results, Tryd.f90, go_sem, hcs]) rfl ⟨by rw [hE1.out, hE2.out], ?_⟩
      exact (hb9.setCell (p := ⟨p, 0, none⟩) hpw _).setCell (p := ⟨p, 1, none⟩) hpw _
theorem endsR_v {v : Value} {l : List Int} {w : World} (hL : ListV w v l) (hne : l ≠ []) (hlen : l.length ≤ 1000) : Calls Tryd.prog 90 #[v] w (EndsPost l w) := by
  obtain ⟨b, o, a, c, rfl, _, hI⟩ := hL
  exact endsR_any b o a c l w hI hne hlen
end Go.Proofs.YtkbmpkdflgimmaaDoor
