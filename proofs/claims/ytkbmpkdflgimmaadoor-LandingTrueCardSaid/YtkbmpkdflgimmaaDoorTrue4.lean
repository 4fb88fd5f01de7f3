/- The contract of rightly: a book whose soundings are right, where they can be told. (Printed by genrightly.py.) -/
import Derived.Test.YtkbmpkdflgimmaaDoorTrue3
namespace Go.Proofs.YtkbmpkdflgimmaaDoor
open Go.RowKit Go.Shelf

/-- What the loop's rounds keep. -/
structure RigI (w : World) (B : Book) (ta : Option Addr) (tc : Nat) (sa : Option Addr) (sc : Nat) (hs : List Int) (ha : Option Addr) (hc : Nat) (fl0 fl1 e : Int) (k : Nat) (v : Value) (a : Act) (W : World) : Prop where
  size : a.tmps.size = 45
  defers : a.defers = []
  s2 : slotOf a 2 = .pointer (some ⟨w.heap.size, 0, none⟩)
  s3 : slotOf a 3 = .pointer (some ⟨w.heap.size + 1, 0, none⟩)
  s4 : slotOf a 4 = .pointer (some ⟨w.heap.size + 2, 0, none⟩)
  s5 : slotOf a 5 = .pointer (some ⟨w.heap.size + 3, 0, none⟩)
  s6 : slotOf a 6 = i64 k
  hz : w.heap.size + 4 ≤ W.heap.size
  hb : Below w.heap.size w W
  hx : W.heap[w.heap.size]? = some (.cells (bookCells B ta tc sa sc) 30 (0, 0))
  hk : W.heap[w.heap.size + 1]? = some (.cells #[.slice ha hs.length hc, i64 fl0, i64 fl1, i64 e] 43 (0, 0))
  hr : W.heap[w.heap.size + 2]? = some (.cells zero30 30 (0, 0))
  hy : W.heap[w.heap.size + 3]? = some (.cells (withV B ta tc v) 30 (0, 0))
  own : W.ownsRow (w.heap.size + 4) 70 3 v (rightK B.sounds hs (fl0, fl1) k).length (flatS (rightK B.sounds hs (fl0, fl1) k))
def rdRi0 (i : Nat) : List Nat := match i with
  | 0 => [22] | 1 => [23] | 2 => [24] | 3 => [25] | 4 => [26] | 5 => [27] | 6 => [28] | 7 => [29] | 8 => [30] | 9 => [31] | 10 => [32] | 11 => [33] | _ => []
def pureRi0 (i : Nat) : Bool := match i with
   | _ => true
def gRi0 (w : World) (hs : List Int) (ha : Option Addr) (hc hb hq yb j : Nat) (x fl0 : Int) (i : Nat) (vs : List Value) (_ : World) : Prop := match i with
  | 0 => vs = [.pointer (some ⟨w.heap.size + 1, 0, none⟩)]
  | 1 => vs = [.slice ha hs.length hc]
  | 2 => vs = [.pointer (some ⟨yb, 0, none⟩)]
  | 3 => vs = [i64 j]
  | 4 => vs = [.pointer (some ⟨hb, hq + j, none⟩)]
  | 5 => vs = [i64 x]
  | 6 => vs = [.pointer (some ⟨yb, 1, none⟩)]
  | 7 => vs = [i64 0]
  | 8 => vs = [.pointer (some ⟨w.heap.size + 1, 1, none⟩)]
  | 9 => vs = [.pointer (some ⟨w.heap.size + 1, 1, none⟩)]
  | 10 => vs = [i64 fl0]
  | 11 => vs = [i64 (x - fl0)]
  | _ => True
def rdRi1 (i : Nat) : List Nat := match i with
  | 0 => [22] | 1 => [23] | 2 => [24] | 3 => [25] | 4 => [26] | 5 => [27] | 6 => [28] | 7 => [29] | 8 => [30] | 9 => [31] | 10 => [32] | 11 => [33] | _ => []
def pureRi1 (i : Nat) : Bool := match i with
   | _ => true
def gRi1 (w : World) (hs : List Int) (ha : Option Addr) (hc hb hq yb j : Nat) (x fl1 : Int) (i : Nat) (vs : List Value) (_ : World) : Prop := match i with
  | 0 => vs = [.pointer (some ⟨w.heap.size + 1, 0, none⟩)]
  | 1 => vs = [.slice ha hs.length hc]
  | 2 => vs = [.pointer (some ⟨yb, 0, none⟩)]
  | 3 => vs = [i64 j]
  | 4 => vs = [.pointer (some ⟨hb, hq + j, none⟩)]
  | 5 => vs = [i64 x]
  | 6 => vs = [.pointer (some ⟨yb, 1, none⟩)]
  | 7 => vs = [i64 1]
  | 8 => vs = [.pointer (some ⟨w.heap.size + 1, 1, none⟩)]
  | 9 => vs = [.pointer (some ⟨w.heap.size + 1, 2, none⟩)]
  | 10 => vs = [i64 fl1]
  | 11 => vs = [i64 (x - fl1)]
  | _ => True
set_option maxRecDepth 100000 in
set_option maxHeartbeats 4000000 in
theorem rightly_any (B : Book) (tb tq : Nat) (ta : Option Addr) (tc : Nat) (sb sq : Nat) (sa : Option Addr) (sc : Nat) (hb hq : Nat) (ha : Option Addr) (hc : Nat) (hs : List Int) (fl0 fl1 e : Int) (w : World) (hT : SpansAt w.heap.size w tb tq ta B.tides) (hS : SoundsAt w.heap.size w sb sq sa B.sounds) (hH : IntsAt w.heap.size w hb hq ha hs) (hV : Vld B)
    (hlen : hs.length = B.tides.length) (hrg : ∀ j (h : j < hs.length), -1000 ≤ hs[j] ∧ hs[j] ≤ 1000) (r0 : -1000 ≤ fl0 ∧ fl0 ≤ 1000) (r1 : -1000 ≤ fl1 ∧ fl1 ≤ 1000) :
    Calls Tryd.prog 23 #[bookVal B ta tc sa sc, .agg #[.slice ha hs.length hc, i64 fl0, i64 fl1, i64 e]] w (BookPost (rightS B hs (fl0, fl1)) w) := by
  have hb0 : Below w.heap.size w ((((w.alloc (.cells (bookCells B ta tc sa sc) 30)).alloc (.cells #[.slice ha hs.length hc, i64 fl0, i64 fl1, i64 e] 43)).alloc (.cells zero30 30)).alloc (.cells zero30 30)) := ((((Below.refl _ w).alloc (Nat.le_refl _) _).alloc (by simp <;> omega) _).alloc (by simp <;> omega) _).alloc (by simp <;> omega) _
  have hx0 : ((w.alloc (.cells (bookCells B ta tc sa sc) 30)).alloc (.cells #[.slice ha hs.length hc, i64 fl0, i64 fl1, i64 e] 43)).heap[w.heap.size]? = some (.cells (bookCells B ta tc sa sc) 30 (0, 0)) := (Below.heap_alloc _ _ _ (by simp <;> omega)).trans (heap_alloc_new w _)
  have hx1 : (((w.alloc (.cells (bookCells B ta tc sa sc) 30)).alloc (.cells #[.slice ha hs.length hc, i64 fl0, i64 fl1, i64 e] 43)).alloc (.cells zero30 30)).heap[w.heap.size]? = some (.cells (bookCells B ta tc sa sc) 30 (0, 0)) := (Below.heap_alloc _ _ _ (by simp <;> omega)).trans hx0
  have hx2 : ((((w.alloc (.cells (bookCells B ta tc sa sc) 30)).alloc (.cells #[.slice ha hs.length hc, i64 fl0, i64 fl1, i64 e] 43)).alloc (.cells zero30 30)).alloc (.cells zero30 30)).heap[w.heap.size]? = some (.cells (bookCells B ta tc sa sc) 30 (0, 0)) := (Below.heap_alloc _ _ _ (by simp <;> omega)).trans hx1
  have hk2 : ((((w.alloc (.cells (bookCells B ta tc sa sc) 30)).alloc (.cells #[.slice ha hs.length hc, i64 fl0, i64 fl1, i64 e] 43)).alloc (.cells zero30 30)).alloc (.cells zero30 30)).heap[w.heap.size + 1]? = some (.cells #[.slice ha hs.length hc, i64 fl0, i64 fl1, i64 e] 43 (0, 0)) := (Below.heap_alloc _ _ _ (by simp <;> omega)).trans ((Below.heap_alloc _ _ _ (by simp <;> omega)).trans (heap_new_at _ _ _ (by simp)))
  have hr2 : ((((w.alloc (.cells (bookCells B ta tc sa sc) 30)).alloc (.cells #[.slice ha hs.length hc, i64 fl0, i64 fl1, i64 e] 43)).alloc (.cells zero30 30)).alloc (.cells zero30 30)).heap[w.heap.size + 2]? = some (.cells zero30 30 (0, 0)) := (Below.heap_alloc _ _ _ (by simp <;> omega)).trans (heap_new_at _ _ _ (by simp))
  have hy2 : ((((w.alloc (.cells (bookCells B ta tc sa sc) 30)).alloc (.cells #[.slice ha hs.length hc, i64 fl0, i64 fl1, i64 e] 43)).alloc (.cells zero30 30)).alloc (.cells zero30 30)).heap[w.heap.size + 3]? = some (.cells zero30 30 (0, 0)) := heap_new_at _ _ _ (by simp)
  have hst := SetAt.row ((((w.alloc (.cells (bookCells B ta tc sa sc) 30)).alloc (.cells #[.slice ha hs.length hc, i64 fl0, i64 fl1, i64 e] 43)).alloc (.cells zero30 30)).alloc (.cells zero30 30)) (w.heap.size + 3) (bookCells B ta tc sa sc)
  have hy3 : (((((w.alloc (.cells (bookCells B ta tc sa sc) 30)).alloc (.cells #[.slice ha hs.length hc, i64 fl0, i64 fl1, i64 e] 43)).alloc (.cells zero30 30)).alloc (.cells zero30 30)).setRow (w.heap.size + 3) (bookCells B ta tc sa sc)).heap[w.heap.size + 3]? = some (.cells (bookCells B ta tc sa sc) 30 (0, 0)) := setRow_heap _ _ _ _ _ _ hy2
  have hyc3 := cells_of hy3
  have hyf3 := frozen_of hy3
  have hyl3 := (Array.getElem?_eq_some_iff.1 hy3).1
  have hx3 := (hst.other w.heap.size (by omega)).trans hx2
  have hk3 := (hst.other (w.heap.size + 1) (by omega)).trans hk2
  have hr3 := (hst.other (w.heap.size + 2) (by omega)).trans hr2
  have hb3 := hst.below (Nat.le_add_right _ 3) hb0
  have hsz3 : w.heap.size + 4 ≤ (((((w.alloc (.cells (bookCells B ta tc sa sc) 30)).alloc (.cells #[.slice ha hs.length hc, i64 fl0, i64 fl1, i64 e] 43)).alloc (.cells zero30 30)).alloc (.cells zero30 30)).setRow (w.heap.size + 3) (bookCells B ta tc sa sc)).heap.size := by rw [hst.size]; simp
  have hs6 := hV.s6
  replace hlen := Lib.hid hlen
  go_enter Tryd.func23, Tryd.ntmps23
  go_wp2_with (first | (refine ld30 rfl _ rfl _ _ rfl hx1 rfl ?_) | (refine ld30 rfl _ rfl _ _ rfl hx2 rfl ?_) | (refine st30 rfl _ _ rfl _ (bookCells B ta tc sa sc) zero30 rfl rfl hy2 rfl rfl (by simp [Value.oneCell']) ?_))
  refine wp_loop (fun act W => ∃ (k : Nat) (v : Value), k ≤ B.sounds.length ∧ RigI w B ta tc sa sc hs ha hc fl0 fl1 e k v act W) (fun act _ => B.sounds.length - (intOf (slotOf act 6)).toNat) ?_ ?_
  · exact ⟨0, .slice none 0 0, Nat.zero_le _, rfl, rfl, rfl, rfl, rfl, rfl, rfl, by simp, hb3.setCell (p := ⟨w.heap.size + 3, 13, none⟩) (by show w.heap.size ≤ w.heap.size + 3; omega) _, (Below.heap_setCell _ _ _ _ (by show w.heap.size ≠ w.heap.size + 3; omega)).trans hx3, (Below.heap_setCell _ _ _ _ (by show w.heap.size + 1 ≠ w.heap.size + 3; omega)).trans hk3, (Below.heap_setCell _ _ _ _ (by show w.heap.size + 2 ≠ w.heap.size + 3; omega)).trans hr3, set_book' 13 hy3 _, World.ownsRow_nil _ _ _ _⟩
  · clear hx0 hx1 hx2 hk2 hr2 hy2 hst hy3 hyc3 hyf3 hyl3 hx3 hk3 hr3 hb3 hsz3 hb0
    rintro act W9 ⟨k, v, hk, hsz, hdf, s2, s3, s4, s5, s6, hz9, hb9, hx9, hk9, hr9, hy9, hown⟩
    rw [act_eta act 45 hsz hdf]
    simp only [show List.range 45 = [0, 1, 2, 3, 4, 5, 6, 7, 8, 9, 10, 11, 12, 13, 14, 15, 16, 17, 18, 19, 20, 21, 22, 23, 24, 25, 26, 27, 28, 29, 30, 31, 32, 33, 34, 35, 36, 37, 38, 39, 40, 41, 42, 43, 44] from rfl, List.map_cons, List.map_nil, s2, s3, s4, s5, s6]
    have hxc := cells_of hx9
    have hxl := (Array.getElem?_eq_some_iff.1 hx9).1
    by_cases hlt : k < B.sounds.length
    · have hlt' : (k : Int) < (B.sounds.length : Int) := by omega
      have hSw := hS.same (Same.of_below hb9)
      have hi28 : ∀ W, (Instr.indexAt 28 (.slice sa B.sounds.length sc) (.int .i64 (k : Int))).run Tryd.prog W = .ok (.pointer (some ⟨sb, sq + k * 3, none⟩)) W := fun W => idx28 W (hSw.at_ (ne_nil_of_lt hlt)) hlt
      have hsucc := rightK_succ B.sounds hs (fl0, fl1) k hlt
      have hkl := rightK_len B.sounds hs (fl0, fl1) k
      obtain ⟨⟨t1, t2⟩, ⟨t3, t4⟩, _⟩ := hV.sounds _ (List.getElem_mem hlt)
      obtain ⟨j, hjh⟩ : ∃ j : Nat, B.sounds[k].hour = j := ⟨B.sounds[k].hour.toNat, by omega⟩
      have hj : j < hs.length := by have := hlen.out; omega
      obtain ⟨x, hje⟩ : ∃ x, Hid (hs[j] = x) := ⟨_, Lib.hid rfl⟩
      have hxr := hrg j hj
      rw [hje.out] at hxr
      have hgd : hs.getD j 0 = x := by rw [List.getD_eq_getElem?_getD, List.getElem?_eq_getElem hj]; exact hje.out
      have c1 := hSw.hour k hlt
      have c2 := hSw.shore k hlt
      have c3 := hSw.deep k hlt
      rw [hjh] at c1
      have hi40 := fun W => idx40 (n := hs.length) (c := hc) (k := j) W (hH.at_ (ne_nil_of_lt hj)) hj
      rcases (by omega : B.sounds[k].shore = 0 ∨ B.sounds[k].shore = 1) with hsh | hsh
      · rw [hsh] at c2
        have hry : rightY hs (fl0, fl1) B.sounds[k] = if 0 ≤ x - fl0 ∧ x - fl0 ≤ 120 then some ⟨j, 0, x - fl0⟩ else none := by
          unfold rightY
          rw [hjh, hsh, Int.toNat_natCast, hgd]
          rfl
        rw [hry] at hsucc
        have hwx : IntKind.i64.wrap (x - fl0) = x - fl0 := wrap_fit (by omega) (by omega)
        have hsucc := Lib.hid hsucc
        clear hry hgd hjh hsh t1 t2 t3 t4
        go_wp2_with fail
        have hbn : Below W9.heap.size W9 (W9.alloc (.cells #[i64 j, i64 0, i64 B.sounds[k].deep] 70)) := (Below.refl _ W9).alloc (Nat.le_refl _) _
        have hyn := heap_alloc_new W9 (.cells #[i64 j, i64 0, i64 B.sounds[k].deep] 70)
        obtain ⟨wC, hwC⟩ : ∃ wC, W9.alloc (.cells #[i64 j, i64 0, i64 B.sounds[k].deep] 70) = wC := ⟨_, rfl⟩
        obtain ⟨yb, hyb⟩ : ∃ yb, W9.heap.size = yb := ⟨_, rfl⟩
        rw [hwC] at hbn hyn ⊢
        have hxC := (Below.block hbn _ hxl).trans hx9
        have hkC := (Below.block hbn _ (Array.getElem?_eq_some_iff.1 hk9).1).trans hk9
        have hrC := (Below.block hbn _ (Array.getElem?_eq_some_iff.1 hr9).1).trans hr9
        have hYC := (Below.block hbn _ (Array.getElem?_eq_some_iff.1 hy9).1).trans hy9
        have hownC := ownsRow_below hown hbn
        have hbC := hb9.trans (hbn.mono hb9.size)
        have hHC := hH.same (Same.of_below hbC)
        have hyC := hyn
        rw [hyb] at hyC hz9 ⊢
        have hkCl := (Array.getElem?_eq_some_iff.1 hkC).1
        have hyCl := (Array.getElem?_eq_some_iff.1 hyC).1
        have hown9 := hown
        have hbnz := hbn
        rw [hyb] at hbnz
        clear hbn hyn hx9 hk9 hr9 hy9 hwC hxc hxl hownC c1 c2 c3
        refine rl_region 12 rdRi0 pureRi0 (gRi0 w hs ha hc hb hq yb j x fl0) BR (by kernel_rfl) (by kernel_rfl) (by kernel_rfl) (by kernel_rfl) (by kernel_rfl) (by kernel_rfl) (fun n => BR.drawn _ n) BR.refl (fun _ _ _ => BR.trans) ?_ ?_ ?_
        · intro i _ hi vs wA wB hG hR
          match i, hi, hG with
          | 0, _, hG => exact hG
          | 1, _, hG => exact hG
          | 2, _, hG => exact hG
          | 3, _, hG => exact hG
          | 4, _, hG => exact hG
          | 5, _, hG => exact hG
          | 6, _, hG => exact hG
          | 7, _, hG => exact hG
          | 8, _, hG => exact hG
          | 9, _, hG => exact hG
          | 10, _, hG => exact hG
          | 11, _, hG => exact hG
          | _ + 12, _, _ => trivial
        · intro i op hin ho act wA hR hF hD
          have sz : act.tmps.size = 45 := hF.size
          match i, hin, ho, hD with
          | 0, _, ho, hD =>
            cases ho
            have e3 := slot_tmps (show slotOf act 3 = .pointer (some ⟨w.heap.size + 1, 0, none⟩) from hF.slot 3 (by kernel_rfl))
            refine rgw_val (wanted_none rfl) (.pointer (some ⟨w.heap.size + 1, 0, none⟩)) (by simp [go_sem, e3]) (BR.refl _) ?_
            exact congrArg (fun v => [v]) (slotOf_same act 22 _ (by omega))
          | 1, _, ho, hD =>
            cases ho
            have e22 := slot_tmps (List.cons.inj (hD 0 (by decide))).1
            have hkA := (Below.block hR _ hkCl).trans hkC
            have hkc := cells_of hkA
            refine rgw_val (wanted_none rfl) (.slice ha hs.length hc) (by simp [go_sem, e22, hkc]) (BR.refl _) ?_
            exact congrArg (fun v => [v]) (slotOf_same act 23 _ (by omega))
          | 2, _, ho, hD =>
            cases ho
            have e7 := slot_tmps (show slotOf act 7 = .pointer (some ⟨yb, 0, none⟩) from hF.slot 7 (by kernel_rfl))
            refine rgw_val (wanted_none rfl) (.pointer (some ⟨yb, 0, none⟩)) (by simp [go_sem, e7]) (BR.refl _) ?_
            exact congrArg (fun v => [v]) (slotOf_same act 24 _ (by omega))
          | 3, _, ho, hD =>
            cases ho
            have e24 := slot_tmps (List.cons.inj (hD 2 (by decide))).1
            have hyA := (Below.block hR _ hyCl).trans hyC
            have hyc := cells_of hyA
            refine rgw_val (wanted_none rfl) (i64 j) (by simp [go_sem, e24, hyc]) (BR.refl _) ?_
            exact congrArg (fun v => [v]) (slotOf_same act 25 _ (by omega))
          | 4, _, ho, hD =>
            cases ho
            have e23 := slot_tmps (List.cons.inj (hD 1 (by decide))).1
            have e25 := slot_tmps (List.cons.inj (hD 3 (by decide))).1
            refine rgw_val (wanted_none rfl) (.pointer (some ⟨hb, hq + j, none⟩)) (by simp [go_sem, e23, e25, hi40]) (BR.refl _) ?_
            exact congrArg (fun v => [v]) (slotOf_same act 26 _ (by omega))
          | 5, _, ho, hD =>
            cases ho
            have e26 := slot_tmps (List.cons.inj (hD 4 (by decide))).1
            have hHA := hHC.same (Same.of_below (Below.mono hR hbC.size))
            have hhc := hHA.cell j hj
            rw [hje.out] at hhc
            refine rgw_val (wanted_none rfl) (i64 x) (by simp [go_sem, e26, hhc]) (BR.refl _) ?_
            exact congrArg (fun v => [v]) (slotOf_same act 27 _ (by omega))
          | 6, _, ho, hD =>
            cases ho
            have e7 := slot_tmps (show slotOf act 7 = .pointer (some ⟨yb, 0, none⟩) from hF.slot 7 (by kernel_rfl))
            refine rgw_val (wanted_none rfl) (.pointer (some ⟨yb, 1, none⟩)) (by simp [go_sem, e7]) (BR.refl _) ?_
            exact congrArg (fun v => [v]) (slotOf_same act 28 _ (by omega))
          | 7, _, ho, hD =>
            cases ho
            have e28 := slot_tmps (List.cons.inj (hD 6 (by decide))).1
            have hyA := (Below.block hR _ hyCl).trans hyC
            have hyc := cells_of hyA
            refine rgw_val (wanted_none rfl) (i64 0) (by simp [go_sem, e28, hyc]) (BR.refl _) ?_
            exact congrArg (fun v => [v]) (slotOf_same act 29 _ (by omega))
          | 8, _, ho, hD =>
            cases ho
            have e3 := slot_tmps (show slotOf act 3 = .pointer (some ⟨w.heap.size + 1, 0, none⟩) from hF.slot 3 (by kernel_rfl))
            refine rgw_val (wanted_none rfl) (.pointer (some ⟨w.heap.size + 1, 1, none⟩)) (by simp [go_sem, e3]) (BR.refl _) ?_
            exact congrArg (fun v => [v]) (slotOf_same act 30 _ (by omega))
          | 9, _, ho, hD =>
            cases ho
            have e29 := slot_tmps (List.cons.inj (hD 7 (by decide))).1
            have e30 := slot_tmps (List.cons.inj (hD 8 (by decide))).1
            refine rgw_val (wanted_none rfl) (.pointer (some ⟨w.heap.size + 1, 1, none⟩)) (by simp [go_sem, e29, e30]) (BR.refl _) ?_
            exact congrArg (fun v => [v]) (slotOf_same act 31 _ (by omega))
          | 10, _, ho, hD =>
            cases ho
            have e31 := slot_tmps (List.cons.inj (hD 9 (by decide))).1
            have hkA := (Below.block hR _ hkCl).trans hkC
            have hkc := cells_of hkA
            refine rgw_val (wanted_none rfl) (i64 fl0) (by simp [go_sem, e31, hkc]) (BR.refl _) ?_
            exact congrArg (fun v => [v]) (slotOf_same act 32 _ (by omega))
          | 11, _, ho, hD =>
            cases ho
            have e27 := slot_tmps (List.cons.inj (hD 5 (by decide))).1
            have e32 := slot_tmps (List.cons.inj (hD 10 (by decide))).1
            refine rgw_val (wanted_none rfl) (i64 (x - fl0)) (by simp [go_sem, e27, e32, hwx]) (BR.refl _) ?_
            exact congrArg (fun v => [v]) (slotOf_same act 33 _ (by omega))
          | _ + 12, hin, _, _ => exact absurd hin (by omega)
        · intro act wA hR hF hA
          have f2 : slotOf act 2 = .pointer (some ⟨w.heap.size, 0, none⟩) := hF.slot 2 (by kernel_rfl)
          have f3 : slotOf act 3 = .pointer (some ⟨w.heap.size + 1, 0, none⟩) := hF.slot 3 (by kernel_rfl)
          have f4 : slotOf act 4 = .pointer (some ⟨w.heap.size + 2, 0, none⟩) := hF.slot 4 (by kernel_rfl)
          have f5 : slotOf act 5 = .pointer (some ⟨w.heap.size + 3, 0, none⟩) := hF.slot 5 (by kernel_rfl)
          have f6 : slotOf act 6 = i64 k := hF.slot 6 (by kernel_rfl)
          have f7 : slotOf act 7 = .pointer (some ⟨yb, 0, none⟩) := hF.slot 7 (by kernel_rfl)
          have f22 : slotOf act 22 = .pointer (some ⟨w.heap.size + 1, 0, none⟩) := (List.cons.inj (hA 0 (by decide))).1
          have f23 : slotOf act 23 = .slice ha hs.length hc := (List.cons.inj (hA 1 (by decide))).1
          have f24 : slotOf act 24 = .pointer (some ⟨yb, 0, none⟩) := (List.cons.inj (hA 2 (by decide))).1
          have f25 : slotOf act 25 = i64 j := (List.cons.inj (hA 3 (by decide))).1
          have f26 : slotOf act 26 = .pointer (some ⟨hb, hq + j, none⟩) := (List.cons.inj (hA 4 (by decide))).1
          have f27 : slotOf act 27 = i64 x := (List.cons.inj (hA 5 (by decide))).1
          have f28 : slotOf act 28 = .pointer (some ⟨yb, 1, none⟩) := (List.cons.inj (hA 6 (by decide))).1
          have f29 : slotOf act 29 = i64 0 := (List.cons.inj (hA 7 (by decide))).1
          have f30 : slotOf act 30 = .pointer (some ⟨w.heap.size + 1, 1, none⟩) := (List.cons.inj (hA 8 (by decide))).1
          have f31 : slotOf act 31 = .pointer (some ⟨w.heap.size + 1, 1, none⟩) := (List.cons.inj (hA 9 (by decide))).1
          have f32 : slotOf act 32 = i64 fl0 := (List.cons.inj (hA 10 (by decide))).1
          have f33 : slotOf act 33 = i64 (x - fl0) := (List.cons.inj (hA 11 (by decide))).1
          rw [act_eta act 45 hF.size hF.defers]
          simp only [show List.range 45 = [0, 1, 2, 3, 4, 5, 6, 7, 8, 9, 10, 11, 12, 13, 14, 15, 16, 17, 18, 19, 20, 21, 22, 23, 24, 25, 26, 27, 28, 29, 30, 31, 32, 33, 34, 35, 36, 37, 38, 39, 40, 41, 42, 43, 44] from rfl, List.map_cons, List.map_nil, f2, f3, f4, f5, f6, f7, f22, f23, f24, f25, f26, f27, f28, f29, f30, f31, f32, f33]
          clear hA hF f2 f3 f4 f5 f6 f7 f22 f23 f24 f25 f26 f27 f28 f29 f30 f31 f32 f33
          simp only [List.drop_succ_cons, List.drop_zero]
          have hbD := hbnz.trans (Below.mono hR (hyb ▸ hbnz.size))
          have hyA := (Below.block hR _ hyCl).trans hyC
          have hyc := cells_of hyA
          have hyf := frozen_of hyA
          have hyl := (Array.getElem?_eq_some_iff.1 hyA).1
          have hYA := (Below.block hR _ (Array.getElem?_eq_some_iff.1 hYC).1).trans hYC
          have hxA := (Below.block hR _ (Array.getElem?_eq_some_iff.1 hxC).1).trans hxC
          have hkA := (Below.block hR _ hkCl).trans hkC
          have hrA := (Below.block hR _ (Array.getElem?_eq_some_iff.1 hrC).1).trans hrC
          have hbA := hbC.trans (Below.mono hR hbC.size)
          have hbE := hbA.setCell (p := ⟨yb, 2, none⟩) (by show w.heap.size ≤ yb; omega) (i64 (x - fl0))
          have hyE : (wA.setCell ⟨yb, 2, none⟩ (i64 (x - fl0))).heap[yb]? = some (.cells #[i64 j, i64 0, i64 (x - fl0)] 70 (0, 0)) := set_cells (k := 2) hyA _
          have hxE : (wA.setCell ⟨yb, 2, none⟩ (i64 (x - fl0))).heap[w.heap.size]? = _ := (Below.heap_setCell _ _ _ _ (by show w.heap.size ≠ yb; omega)).trans hxA
          have hkE : (wA.setCell ⟨yb, 2, none⟩ (i64 (x - fl0))).heap[w.heap.size + 1]? = _ := (Below.heap_setCell _ _ _ _ (by show w.heap.size + 1 ≠ yb; omega)).trans hkA
          have hrE : (wA.setCell ⟨yb, 2, none⟩ (i64 (x - fl0))).heap[w.heap.size + 2]? = _ := (Below.heap_setCell _ _ _ _ (by show w.heap.size + 2 ≠ yb; omega)).trans hrA
          have hYE : (wA.setCell ⟨yb, 2, none⟩ (i64 (x - fl0))).heap[w.heap.size + 3]? = _ := (Below.heap_setCell _ _ _ _ (by show w.heap.size + 3 ≠ yb; omega)).trans hYA
          have hownE : (wA.setCell ⟨yb, 2, none⟩ (i64 (x - fl0))).ownsRow (w.heap.size + 4) 70 3 v _ _ := ownsRow_below hown9 (by rw [hyb]; exact hbD.setCell (p := ⟨yb, 2, none⟩) (Nat.le_refl _) _)
          have hzE : w.heap.size + 4 ≤ (wA.setCell ⟨yb, 2, none⟩ (i64 (x - fl0))).heap.size := Nat.le_trans hz9 (Nat.le_of_lt (by simpa [World.setCell] using hyl))
          clear hxA hkA hrA hYA hbA hbD hyA hR hxC hkC hrC hYC hyC hown9 hbnz hHC hbC hown hb9
          cases hin : inB (x - fl0) 0 120
          · have hs2 : Hid (rightK B.sounds hs (fl0, fl1) (k + 1) = rightK B.sounds hs (fl0, fl1) k) := Lib.hid (by
              have : ¬ (0 ≤ x - fl0 ∧ x - fl0 ≤ 120) := fun h => by rw [inB_true h.1 h.2] at hin; cases hin
              have h := hsucc.out
              rw [if_neg this, List.append_nil] at h
              exact h)
            go_wp2_with fail
            refine (inside_any _ _ _ _).mono ?_
            rintro e w' ⟨rfl, rfl⟩
            rw [hin]
            obtain ⟨wE, hwE⟩ : ∃ wE, wA.setCell ⟨yb, 2, none⟩ (i64 (x - fl0)) = wE := ⟨_, rfl⟩
            rw [hwE] at hbE hyE hxE hkE hrE hYE hownE hzE ⊢
            clear hwE hyc hyf hyl
            go_wp2_with fail
            refine ⟨⟨k + 1, v, by omega, rfl, rfl, rfl, rfl, rfl, rfl, congrArg (Value.int .i64) (Int.natCast_succ k).symm, hzE, hbE, hxE, hkE, hrE, hYE, by rw [hs2.out]; exact hownE⟩, ?_⟩
            show B.sounds.length - ((k : Int) + 1).toNat < B.sounds.length - (k : Int).toNat
            omega
          · have hs2 : Hid (rightK B.sounds hs (fl0, fl1) (k + 1) = rightK B.sounds hs (fl0, fl1) k ++ [⟨j, 0, x - fl0⟩]) := Lib.hid (by
              have : 0 ≤ x - fl0 ∧ x - fl0 ≤ 120 := inB_iff.1 hin
              have h := hsucc.out
              rw [if_pos this] at h
              exact h)
            go_wp2_with fail
            refine (inside_any _ _ _ _).mono ?_
            rintro e w' ⟨rfl, rfl⟩
            rw [hin]
            obtain ⟨wE, hwE⟩ : ∃ wE, wA.setCell ⟨yb, 2, none⟩ (i64 (x - fl0)) = wE := ⟨_, rfl⟩
            rw [hwE] at hbE hyE hxE hkE hrE hYE hownE hzE ⊢
            clear hwE hyc hyf hyl
            have hbn : Below wE.heap.size wE (wE.alloc (.cells #[i64 j, i64 0, i64 (x - fl0)] 70)) := (Below.refl _ wE).alloc (Nat.le_refl _) _
            have hgn := heap_alloc_new wE (.cells #[i64 j, i64 0, i64 (x - fl0)] 70)
            have hgc := cells_of hgn
            have hyc := cells_of hyE
            have hyl := (Array.getElem?_eq_some_iff.1 hyE).1
            have hYc := cells_of hYE
            have hYl := (Array.getElem?_eq_some_iff.1 hYE).1
            have hxF := (Below.block hbn _ (Array.getElem?_eq_some_iff.1 hxE).1).trans hxE
            have hkF := (Below.block hbn _ (Array.getElem?_eq_some_iff.1 hkE).1).trans hkE
            have hrF := (Below.block hbn _ (Array.getElem?_eq_some_iff.1 hrE).1).trans hrE
            have hYF := (Below.block hbn _ hYl).trans hYE
            have hownF := ownsRow_below hownE hbn
            have hbF := hbE.trans (Below.mono hbn hbE.size)
            have hzF := Nat.le_trans hzE hbn.size
            have hnews : ∀ j' u, [i64 j, i64 0, i64 (x - fl0)][j']? = some u → (wE.alloc (.cells #[i64 j, i64 0, i64 (x - fl0)] 70)).cell? ((⟨wE.heap.size, 0, none⟩ : Addr).add j') = some u := fun j' u hu => by
              rw [addr_add, hgc]
              simpa using hu
            obtain ⟨i0, hi, hz0, hz1, hzz⟩ := info_parts info70
            go_wp2_with (at_builtin; refine wpList_append_own _ rfl _ _ 28 rfl (w.heap.size + 4) 70 i0 (.agg #[i64 0, i64 0, i64 0]) 3 24 Tryd.underlying28 hi hz0 hz1 hzz rfl (by decide) v _ _ rfl hownF ⟨wE.heap.size, 0, none⟩ 1 1 [i64 j, i64 0, i64 (x - fl0)] rfl rfl hnews (by simp [Value.oneCell']) (by unfold maxLen; omega) (by omega) hzF ?_; intro v' w2 hown' hgrow _; have hnb : ∀ j, j < w.heap.size + 4 → some j ≠ v.ownBlock := (fun j hj e => by have := (hownF.lt _ e.symm).1; omega); have hY2 := (hgrow.block (w.heap.size + 3) (by omega) (hnb _ (by omega))).trans hYF; have hYc2 := cells_of hY2; have hYf2 := frozen_of hY2; have hYl2 := (Array.getElem?_eq_some_iff.1 hY2).1; obtain ⟨va, vc, rfl⟩ := slice_of_row hown')
            have hx2 := (hgrow.block w.heap.size (by omega) (hnb _ (by omega))).trans hxF
            have hk2 := (hgrow.block (w.heap.size + 1) (by omega) (hnb _ (by omega))).trans hkF
            have hr2 := (hgrow.block (w.heap.size + 2) (by omega) (hnb _ (by omega))).trans hrF
            have hb2 : Below w.heap.size w w2 := hbF.grown hgrow (by omega) (fun j e => by have := (hownF.lt _ e).1; omega)
            have hz2 : w.heap.size + 4 ≤ w2.heap.size := Nat.le_trans hzF hgrow.size
            refine ⟨⟨k + 1, .slice va ((rightK B.sounds hs (fl0, fl1) k).length + 1) vc, by omega, rfl, rfl, rfl, rfl, rfl, rfl, congrArg (Value.int .i64) (Int.natCast_succ k).symm, ?_, ?_, ?_, ?_, ?_, ?_, ?_⟩, ?_⟩
            · simpa [World.setCell] using hz2
            · exact hb2.setCell (p := ⟨w.heap.size + 3, 13, none⟩) (by show w.heap.size ≤ w.heap.size + 3; omega) _
            · exact (Below.heap_setCell _ _ _ _ (by show w.heap.size ≠ w.heap.size + 3; omega)).trans hx2
            · exact (Below.heap_setCell _ _ _ _ (by show w.heap.size + 1 ≠ w.heap.size + 3; omega)).trans hk2
            · exact (Below.heap_setCell _ _ _ _ (by show w.heap.size + 2 ≠ w.heap.size + 3; omega)).trans hr2
            · exact set_book' 13 hY2 _
            · rw [hs2.out, flatS_snoc, List.length_append]
              exact ownsRow_keep (y := w.heap.size + 3) hown' (by omega) (fun j _ hjy => Below.heap_setCell _ _ _ j hjy)
            · show B.sounds.length - ((k : Int) + 1).toNat < B.sounds.length - (k : Int).toNat
              omega
      · rw [hsh] at c2
        have hry : rightY hs (fl0, fl1) B.sounds[k] = if 0 ≤ x - fl1 ∧ x - fl1 ≤ 120 then some ⟨j, 1, x - fl1⟩ else none := by
          unfold rightY
          rw [hjh, hsh, Int.toNat_natCast, hgd]
          rfl
        rw [hry] at hsucc
        have hwx : IntKind.i64.wrap (x - fl1) = x - fl1 := wrap_fit (by omega) (by omega)
        have hsucc := Lib.hid hsucc
        clear hry hgd hjh hsh t1 t2 t3 t4
        go_wp2_with fail
        have hbn : Below W9.heap.size W9 (W9.alloc (.cells #[i64 j, i64 1, i64 B.sounds[k].deep] 70)) := (Below.refl _ W9).alloc (Nat.le_refl _) _
        have hyn := heap_alloc_new W9 (.cells #[i64 j, i64 1, i64 B.sounds[k].deep] 70)
        obtain ⟨wC, hwC⟩ : ∃ wC, W9.alloc (.cells #[i64 j, i64 1, i64 B.sounds[k].deep] 70) = wC := ⟨_, rfl⟩
        obtain ⟨yb, hyb⟩ : ∃ yb, W9.heap.size = yb := ⟨_, rfl⟩
        rw [hwC] at hbn hyn ⊢
        have hxC := (Below.block hbn _ hxl).trans hx9
        have hkC := (Below.block hbn _ (Array.getElem?_eq_some_iff.1 hk9).1).trans hk9
        have hrC := (Below.block hbn _ (Array.getElem?_eq_some_iff.1 hr9).1).trans hr9
        have hYC := (Below.block hbn _ (Array.getElem?_eq_some_iff.1 hy9).1).trans hy9
        have hownC := ownsRow_below hown hbn
        have hbC := hb9.trans (hbn.mono hb9.size)
        have hHC := hH.same (Same.of_below hbC)
        have hyC := hyn
        rw [hyb] at hyC hz9 ⊢
        have hkCl := (Array.getElem?_eq_some_iff.1 hkC).1
        have hyCl := (Array.getElem?_eq_some_iff.1 hyC).1
        have hown9 := hown
        have hbnz := hbn
        rw [hyb] at hbnz
        clear hbn hyn hx9 hk9 hr9 hy9 hwC hxc hxl hownC c1 c2 c3
        refine rl_region 12 rdRi1 pureRi1 (gRi1 w hs ha hc hb hq yb j x fl1) BR (by kernel_rfl) (by kernel_rfl) (by kernel_rfl) (by kernel_rfl) (by kernel_rfl) (by kernel_rfl) (fun n => BR.drawn _ n) BR.refl (fun _ _ _ => BR.trans) ?_ ?_ ?_
        · intro i _ hi vs wA wB hG hR
          match i, hi, hG with
          | 0, _, hG => exact hG
          | 1, _, hG => exact hG
          | 2, _, hG => exact hG
          | 3, _, hG => exact hG
          | 4, _, hG => exact hG
          | 5, _, hG => exact hG
          | 6, _, hG => exact hG
          | 7, _, hG => exact hG
          | 8, _, hG => exact hG
          | 9, _, hG => exact hG
          | 10, _, hG => exact hG
          | 11, _, hG => exact hG
          | _ + 12, _, _ => trivial
        · intro i op hin ho act wA hR hF hD
          have sz : act.tmps.size = 45 := hF.size
          match i, hin, ho, hD with
          | 0, _, ho, hD =>
            cases ho
            have e3 := slot_tmps (show slotOf act 3 = .pointer (some ⟨w.heap.size + 1, 0, none⟩) from hF.slot 3 (by kernel_rfl))
            refine rgw_val (wanted_none rfl) (.pointer (some ⟨w.heap.size + 1, 0, none⟩)) (by simp [go_sem, e3]) (BR.refl _) ?_
            exact congrArg (fun v => [v]) (slotOf_same act 22 _ (by omega))
          | 1, _, ho, hD =>
            cases ho
            have e22 := slot_tmps (List.cons.inj (hD 0 (by decide))).1
            have hkA := (Below.block hR _ hkCl).trans hkC
            have hkc := cells_of hkA
            refine rgw_val (wanted_none rfl) (.slice ha hs.length hc) (by simp [go_sem, e22, hkc]) (BR.refl _) ?_
            exact congrArg (fun v => [v]) (slotOf_same act 23 _ (by omega))
          | 2, _, ho, hD =>
            cases ho
            have e7 := slot_tmps (show slotOf act 7 = .pointer (some ⟨yb, 0, none⟩) from hF.slot 7 (by kernel_rfl))
            refine rgw_val (wanted_none rfl) (.pointer (some ⟨yb, 0, none⟩)) (by simp [go_sem, e7]) (BR.refl _) ?_
            exact congrArg (fun v => [v]) (slotOf_same act 24 _ (by omega))
          | 3, _, ho, hD =>
            cases ho
            have e24 := slot_tmps (List.cons.inj (hD 2 (by decide))).1
            have hyA := (Below.block hR _ hyCl).trans hyC
            have hyc := cells_of hyA
            refine rgw_val (wanted_none rfl) (i64 j) (by simp [go_sem, e24, hyc]) (BR.refl _) ?_
            exact congrArg (fun v => [v]) (slotOf_same act 25 _ (by omega))
          | 4, _, ho, hD =>
            cases ho
            have e23 := slot_tmps (List.cons.inj (hD 1 (by decide))).1
            have e25 := slot_tmps (List.cons.inj (hD 3 (by decide))).1
            refine rgw_val (wanted_none rfl) (.pointer (some ⟨hb, hq + j, none⟩)) (by simp [go_sem, e23, e25, hi40]) (BR.refl _) ?_
            exact congrArg (fun v => [v]) (slotOf_same act 26 _ (by omega))
          | 5, _, ho, hD =>
            cases ho
            have e26 := slot_tmps (List.cons.inj (hD 4 (by decide))).1
            have hHA := hHC.same (Same.of_below (Below.mono hR hbC.size))
            have hhc := hHA.cell j hj
            rw [hje.out] at hhc
            refine rgw_val (wanted_none rfl) (i64 x) (by simp [go_sem, e26, hhc]) (BR.refl _) ?_
            exact congrArg (fun v => [v]) (slotOf_same act 27 _ (by omega))
          | 6, _, ho, hD =>
            cases ho
            have e7 := slot_tmps (show slotOf act 7 = .pointer (some ⟨yb, 0, none⟩) from hF.slot 7 (by kernel_rfl))
            refine rgw_val (wanted_none rfl) (.pointer (some ⟨yb, 1, none⟩)) (by simp [go_sem, e7]) (BR.refl _) ?_
            exact congrArg (fun v => [v]) (slotOf_same act 28 _ (by omega))
          | 7, _, ho, hD =>
            cases ho
            have e28 := slot_tmps (List.cons.inj (hD 6 (by decide))).1
            have hyA := (Below.block hR _ hyCl).trans hyC
            have hyc := cells_of hyA
            refine rgw_val (wanted_none rfl) (i64 1) (by simp [go_sem, e28, hyc]) (BR.refl _) ?_
            exact congrArg (fun v => [v]) (slotOf_same act 29 _ (by omega))
          | 8, _, ho, hD =>
            cases ho
            have e3 := slot_tmps (show slotOf act 3 = .pointer (some ⟨w.heap.size + 1, 0, none⟩) from hF.slot 3 (by kernel_rfl))
            refine rgw_val (wanted_none rfl) (.pointer (some ⟨w.heap.size + 1, 1, none⟩)) (by simp [go_sem, e3]) (BR.refl _) ?_
            exact congrArg (fun v => [v]) (slotOf_same act 30 _ (by omega))
          | 9, _, ho, hD =>
            cases ho
            have e29 := slot_tmps (List.cons.inj (hD 7 (by decide))).1
            have e30 := slot_tmps (List.cons.inj (hD 8 (by decide))).1
            refine rgw_val (wanted_none rfl) (.pointer (some ⟨w.heap.size + 1, 2, none⟩)) (by simp [go_sem, e29, e30]) (BR.refl _) ?_
            exact congrArg (fun v => [v]) (slotOf_same act 31 _ (by omega))
          | 10, _, ho, hD =>
            cases ho
            have e31 := slot_tmps (List.cons.inj (hD 9 (by decide))).1
            have hkA := (Below.block hR _ hkCl).trans hkC
            have hkc := cells_of hkA
            refine rgw_val (wanted_none rfl) (i64 fl1) (by simp [go_sem, e31, hkc]) (BR.refl _) ?_
            exact congrArg (fun v => [v]) (slotOf_same act 32 _ (by omega))
          | 11, _, ho, hD =>
            cases ho
            have e27 := slot_tmps (List.cons.inj (hD 5 (by decide))).1
            have e32 := slot_tmps (List.cons.inj (hD 10 (by decide))).1
            refine rgw_val (wanted_none rfl) (i64 (x - fl1)) (by simp [go_sem, e27, e32, hwx]) (BR.refl _) ?_
            exact congrArg (fun v => [v]) (slotOf_same act 33 _ (by omega))
          | _ + 12, hin, _, _ => exact absurd hin (by omega)
        · intro act wA hR hF hA
          have f2 : slotOf act 2 = .pointer (some ⟨w.heap.size, 0, none⟩) := hF.slot 2 (by kernel_rfl)
          have f3 : slotOf act 3 = .pointer (some ⟨w.heap.size + 1, 0, none⟩) := hF.slot 3 (by kernel_rfl)
          have f4 : slotOf act 4 = .pointer (some ⟨w.heap.size + 2, 0, none⟩) := hF.slot 4 (by kernel_rfl)
          have f5 : slotOf act 5 = .pointer (some ⟨w.heap.size + 3, 0, none⟩) := hF.slot 5 (by kernel_rfl)
          have f6 : slotOf act 6 = i64 k := hF.slot 6 (by kernel_rfl)
          have f7 : slotOf act 7 = .pointer (some ⟨yb, 0, none⟩) := hF.slot 7 (by kernel_rfl)
          have f22 : slotOf act 22 = .pointer (some ⟨w.heap.size + 1, 0, none⟩) := (List.cons.inj (hA 0 (by decide))).1
          have f23 : slotOf act 23 = .slice ha hs.length hc := (List.cons.inj (hA 1 (by decide))).1
          have f24 : slotOf act 24 = .pointer (some ⟨yb, 0, none⟩) := (List.cons.inj (hA 2 (by decide))).1
          have f25 : slotOf act 25 = i64 j := (List.cons.inj (hA 3 (by decide))).1
          have f26 : slotOf act 26 = .pointer (some ⟨hb, hq + j, none⟩) := (List.cons.inj (hA 4 (by decide))).1
          have f27 : slotOf act 27 = i64 x := (List.cons.inj (hA 5 (by decide))).1
          have f28 : slotOf act 28 = .pointer (some ⟨yb, 1, none⟩) := (List.cons.inj (hA 6 (by decide))).1
          have f29 : slotOf act 29 = i64 1 := (List.cons.inj (hA 7 (by decide))).1
          have f30 : slotOf act 30 = .pointer (some ⟨w.heap.size + 1, 1, none⟩) := (List.cons.inj (hA 8 (by decide))).1
          have f31 : slotOf act 31 = .pointer (some ⟨w.heap.size + 1, 2, none⟩) := (List.cons.inj (hA 9 (by decide))).1
          have f32 : slotOf act 32 = i64 fl1 := (List.cons.inj (hA 10 (by decide))).1
          have f33 : slotOf act 33 = i64 (x - fl1) := (List.cons.inj (hA 11 (by decide))).1
          rw [act_eta act 45 hF.size hF.defers]
          simp only [show List.range 45 = [0, 1, 2, 3, 4, 5, 6, 7, 8, 9, 10, 11, 12, 13, 14, 15, 16, 17, 18, 19, 20, 21, 22, 23, 24, 25, 26, 27, 28, 29, 30, 31, 32, 33, 34, 35, 36, 37, 38, 39, 40, 41, 42, 43, 44] from rfl, List.map_cons, List.map_nil, f2, f3, f4, f5, f6, f7, f22, f23, f24, f25, f26, f27, f28, f29, f30, f31, f32, f33]
          clear hA hF f2 f3 f4 f5 f6 f7 f22 f23 f24 f25 f26 f27 f28 f29 f30 f31 f32 f33
          simp only [List.drop_succ_cons, List.drop_zero]
          have hbD := hbnz.trans (Below.mono hR (hyb ▸ hbnz.size))
          have hyA := (Below.block hR _ hyCl).trans hyC
          have hyc := cells_of hyA
          have hyf := frozen_of hyA
          have hyl := (Array.getElem?_eq_some_iff.1 hyA).1
          have hYA := (Below.block hR _ (Array.getElem?_eq_some_iff.1 hYC).1).trans hYC
          have hxA := (Below.block hR _ (Array.getElem?_eq_some_iff.1 hxC).1).trans hxC
          have hkA := (Below.block hR _ hkCl).trans hkC
          have hrA := (Below.block hR _ (Array.getElem?_eq_some_iff.1 hrC).1).trans hrC
          have hbA := hbC.trans (Below.mono hR hbC.size)
          have hbE := hbA.setCell (p := ⟨yb, 2, none⟩) (by show w.heap.size ≤ yb; omega) (i64 (x - fl1))
          have hyE : (wA.setCell ⟨yb, 2, none⟩ (i64 (x - fl1))).heap[yb]? = some (.cells #[i64 j, i64 1, i64 (x - fl1)] 70 (0, 0)) := set_cells (k := 2) hyA _
          have hxE : (wA.setCell ⟨yb, 2, none⟩ (i64 (x - fl1))).heap[w.heap.size]? = _ := (Below.heap_setCell _ _ _ _ (by show w.heap.size ≠ yb; omega)).trans hxA
          have hkE : (wA.setCell ⟨yb, 2, none⟩ (i64 (x - fl1))).heap[w.heap.size + 1]? = _ := (Below.heap_setCell _ _ _ _ (by show w.heap.size + 1 ≠ yb; omega)).trans hkA
          have hrE : (wA.setCell ⟨yb, 2, none⟩ (i64 (x - fl1))).heap[w.heap.size + 2]? = _ := (Below.heap_setCell _ _ _ _ (by show w.heap.size + 2 ≠ yb; omega)).trans hrA
          have hYE : (wA.setCell ⟨yb, 2, none⟩ (i64 (x - fl1))).heap[w.heap.size + 3]? = _ := (Below.heap_setCell _ _ _ _ (by show w.heap.size + 3 ≠ yb; omega)).trans hYA
          have hownE : (wA.setCell ⟨yb, 2, none⟩ (i64 (x - fl1))).ownsRow (w.heap.size + 4) 70 3 v _ _ := ownsRow_below hown9 (by rw [hyb]; exact hbD.setCell (p := ⟨yb, 2, none⟩) (Nat.le_refl _) _)
          have hzE : w.heap.size + 4 ≤ (wA.setCell ⟨yb, 2, none⟩ (i64 (x - fl1))).heap.size := Nat.le_trans hz9 (Nat.le_of_lt (by simpa [World.setCell] using hyl))
          clear hxA hkA hrA hYA hbA hbD hyA hR hxC hkC hrC hYC hyC hown9 hbnz hHC hbC hown hb9
          cases hin : inB (x - fl1) 0 120
          · have hs2 : Hid (rightK B.sounds hs (fl0, fl1) (k + 1) = rightK B.sounds hs (fl0, fl1) k) := Lib.hid (by
              have : ¬ (0 ≤ x - fl1 ∧ x - fl1 ≤ 120) := fun h => by rw [inB_true h.1 h.2] at hin; cases hin
              have h := hsucc.out
              rw [if_neg this, List.append_nil] at h
              exact h)
            go_wp2_with fail
            refine (inside_any _ _ _ _).mono ?_
            rintro e w' ⟨rfl, rfl⟩
            rw [hin]
            obtain ⟨wE, hwE⟩ : ∃ wE, wA.setCell ⟨yb, 2, none⟩ (i64 (x - fl1)) = wE := ⟨_, rfl⟩
            rw [hwE] at hbE hyE hxE hkE hrE hYE hownE hzE ⊢
            clear hwE hyc hyf hyl
            go_wp2_with fail
            refine ⟨⟨k + 1, v, by omega, rfl, rfl, rfl, rfl, rfl, rfl, congrArg (Value.int .i64) (Int.natCast_succ k).symm, hzE, hbE, hxE, hkE, hrE, hYE, by rw [hs2.out]; exact hownE⟩, ?_⟩
            show B.sounds.length - ((k : Int) + 1).toNat < B.sounds.length - (k : Int).toNat
            omega
          · have hs2 : Hid (rightK B.sounds hs (fl0, fl1) (k + 1) = rightK B.sounds hs (fl0, fl1) k ++ [⟨j, 1, x - fl1⟩]) := Lib.hid (by
              have : 0 ≤ x - fl1 ∧ x - fl1 ≤ 120 := inB_iff.1 hin
              have h := hsucc.out
              rw [if_pos this] at h
              exact h)
            go_wp2_with fail
            refine (inside_any _ _ _ _).mono ?_
            rintro e w' ⟨rfl, rfl⟩
            rw [hin]
            obtain ⟨wE, hwE⟩ : ∃ wE, wA.setCell ⟨yb, 2, none⟩ (i64 (x - fl1)) = wE := ⟨_, rfl⟩
            rw [hwE] at hbE hyE hxE hkE hrE hYE hownE hzE ⊢
            clear hwE hyc hyf hyl
            have hbn : Below wE.heap.size wE (wE.alloc (.cells #[i64 j, i64 1, i64 (x - fl1)] 70)) := (Below.refl _ wE).alloc (Nat.le_refl _) _
            have hgn := heap_alloc_new wE (.cells #[i64 j, i64 1, i64 (x - fl1)] 70)
            have hgc := cells_of hgn
            have hyc := cells_of hyE
            have hyl := (Array.getElem?_eq_some_iff.1 hyE).1
            have hYc := cells_of hYE
            have hYl := (Array.getElem?_eq_some_iff.1 hYE).1
            have hxF := (Below.block hbn _ (Array.getElem?_eq_some_iff.1 hxE).1).trans hxE
            have hkF := (Below.block hbn _ (Array.getElem?_eq_some_iff.1 hkE).1).trans hkE
            have hrF := (Below.block hbn _ (Array.getElem?_eq_some_iff.1 hrE).1).trans hrE
            have hYF := (Below.block hbn _ hYl).trans hYE
            have hownF := ownsRow_below hownE hbn
            have hbF := hbE.trans (Below.mono hbn hbE.size)
            have hzF := Nat.le_trans hzE hbn.size
            have hnews : ∀ j' u, [i64 j, i64 1, i64 (x - fl1)][j']? = some u → (wE.alloc (.cells #[i64 j, i64 1, i64 (x - fl1)] 70)).cell? ((⟨wE.heap.size, 0, none⟩ : Addr).add j') = some u := fun j' u hu => by
              rw [addr_add, hgc]
              simpa using hu
            obtain ⟨i0, hi, hz0, hz1, hzz⟩ := info_parts info70
            go_wp2_with (at_builtin; refine wpList_append_own _ rfl _ _ 28 rfl (w.heap.size + 4) 70 i0 (.agg #[i64 0, i64 0, i64 0]) 3 24 Tryd.underlying28 hi hz0 hz1 hzz rfl (by decide) v _ _ rfl hownF ⟨wE.heap.size, 0, none⟩ 1 1 [i64 j, i64 1, i64 (x - fl1)] rfl rfl hnews (by simp [Value.oneCell']) (by unfold maxLen; omega) (by omega) hzF ?_; intro v' w2 hown' hgrow _; have hnb : ∀ j, j < w.heap.size + 4 → some j ≠ v.ownBlock := (fun j hj e => by have := (hownF.lt _ e.symm).1; omega); have hY2 := (hgrow.block (w.heap.size + 3) (by omega) (hnb _ (by omega))).trans hYF; have hYc2 := cells_of hY2; have hYf2 := frozen_of hY2; have hYl2 := (Array.getElem?_eq_some_iff.1 hY2).1; obtain ⟨va, vc, rfl⟩ := slice_of_row hown')
            have hx2 := (hgrow.block w.heap.size (by omega) (hnb _ (by omega))).trans hxF
            have hk2 := (hgrow.block (w.heap.size + 1) (by omega) (hnb _ (by omega))).trans hkF
            have hr2 := (hgrow.block (w.heap.size + 2) (by omega) (hnb _ (by omega))).trans hrF
            have hb2 : Below w.heap.size w w2 := hbF.grown hgrow (by omega) (fun j e => by have := (hownF.lt _ e).1; omega)
            have hz2 : w.heap.size + 4 ≤ w2.heap.size := Nat.le_trans hzF hgrow.size
            refine ⟨⟨k + 1, .slice va ((rightK B.sounds hs (fl0, fl1) k).length + 1) vc, by omega, rfl, rfl, rfl, rfl, rfl, rfl, congrArg (Value.int .i64) (Int.natCast_succ k).symm, ?_, ?_, ?_, ?_, ?_, ?_, ?_⟩, ?_⟩
            · simpa [World.setCell] using hz2
            · exact hb2.setCell (p := ⟨w.heap.size + 3, 13, none⟩) (by show w.heap.size ≤ w.heap.size + 3; omega) _
            · exact (Below.heap_setCell _ _ _ _ (by show w.heap.size ≠ w.heap.size + 3; omega)).trans hx2
            · exact (Below.heap_setCell _ _ _ _ (by show w.heap.size + 1 ≠ w.heap.size + 3; omega)).trans hk2
            · exact (Below.heap_setCell _ _ _ _ (by show w.heap.size + 2 ≠ w.heap.size + 3; omega)).trans hr2
            · exact set_book' 13 hY2 _
            · rw [hs2.out, flatS_snoc, List.length_append]
              exact ownsRow_keep (y := w.heap.size + 3) hown' (by omega) (fun j _ hjy => Below.heap_setCell _ _ _ j hjy)
            · show B.sounds.length - ((k : Int) + 1).toNat < B.sounds.length - (k : Int).toNat
              omega
    · have hlt' : ¬ (k : Int) < (B.sounds.length : Int) := by omega
      obtain rfl : k = B.sounds.length := by omega
      have hdl := rightK_len B.sounds hs (fl0, fl1) B.sounds.length
      obtain ⟨g, a, c, rfl, hSn⟩ := sounds_row hown (by omega)
      have hset := SetAt.row W9 (w.heap.size + 2) (withV B ta tc (.slice a (rightK B.sounds hs (fl0, fl1) B.sounds.length).length c))
      have hbF := hset.below (Nat.le_add_right _ 2) hb9
      have hTF := (hT.same (Same.of_below hbF)).up hbF.size
      have hne : rightK B.sounds hs (fl0, fl1) B.sounds.length ≠ [] → g ≠ w.heap.size + 2 := fun h0 e => by
        have ha := hSn.at_ h0
        subst ha
        have := (hown.lt g rfl).1
        omega
      have hSF := sound_set (z := w.heap.size + 2) (cs := (withV B ta tc (.slice a (rightK B.sounds hs (fl0, fl1) B.sounds.length).length c))) hSn hne
      clear hown hSn hb9 hz9 hdl
      go_wp2_with (first | (refine ld30 rfl _ rfl _ _ rfl hy9 rfl ?_) | (refine st30 rfl _ _ rfl _ (withV B ta tc (.slice a (rightK B.sounds hs (fl0, fl1) B.sounds.length).length c)) zero30 rfl rfl hr9 rfl rfl (by simp [Value.oneCell']) ?_))
      refine bodyPost_ret (results_cell_row rfl _ _ (w.heap.size + 2) 30 _ (0, 0) _ rfl (setRow_heap _ _ _ _ _ _ hr9) Tryd.underlying30 rfl (by rw [size30]; rfl)) rfl ?_
      exact ⟨_, rfl, hbF, tb, tq, ta, tc, g, 0, a, c, rfl, hTF, hSF⟩
end Go.Proofs.YtkbmpkdflgimmaaDoor
