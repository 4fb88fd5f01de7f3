/- LandingEasier answers true of every book and of all numbers. -/
import Derived.Test.YtkbmpkdflgimmaaDoorPure5
namespace Go.Proofs.YtkbmpkdflgimmaaDoor
open Go.RowKit Go.Shelf

theorem cut3 {P : Program} {A B C : Code} {Q : Exit → Act → World → Prop} {a : Act} {w : World} (G F : Act → World → Prop) (h0 : A.wp P (Exit.then G (fun _ _ _ => False)) a w) (h1 : ∀ a w, G a w → B.wp P (Exit.then F (fun _ _ _ => False)) a w) (h2 : ∀ a w, F a w → C.wp P Q a w) : (A.seq (B.seq C)).wp P Q a w := by
  refine wp_seq (Code.wp_mono ?_ h0)
  intro e a w h
  cases e with
  | normal =>
    refine wp_seq (Code.wp_mono ?_ (h1 a w h))
    intro e a w h
    cases e with
    | normal => exact h2 a w h
    | _ => exact h.elim
  | _ => exact h.elim
theorem set_book {W : World} {g : Nat} {cs : Array Value} (k : Nat) (h : W.heap[g]? = some (.cells cs 30 (0, 0))) (v : Value) : (W.setCell ⟨g, k, none⟩ v).heap[g]? = some (.cells (cs.setIfInBounds k v) 30 (0, 0)) := by
  simp [World.setCell, Array.getElem?_modify, h]
/-- What is left of the first part: the book, its easier copy, and the numbers. -/
structure EasAt (w : World) (B X : Book) (ta : Option Addr) (tc : Nat) (sa : Option Addr) (sc g : Nat) (s hr ld : Int) (n3 : List Value) (a : Act) (W : World) : Prop where
  size : a.tmps.size = 221
  defers : a.defers = []
  s2 : slotOf a 2 = .pointer (some ⟨w.heap.size, 0, none⟩)
  s3 : slotOf a 3 = .pointer (some ⟨w.heap.size + 1, 0, none⟩)
  s4 : slotOf a 4 = .bool false
  s5 : slotOf a 5 = i64 s
  s6 : slotOf a 6 = i64 hr
  s7 : slotOf a 7 = i64 ld
  s8 : slotOf a 8 = .pointer (some ⟨g, 0, none⟩)
  ha : Below w.heap.size w W
  hx : W.heap[w.heap.size]? = some (.cells (bookCells B ta tc sa sc) 30 (0, 0))
  hy : W.heap[w.heap.size + 1]? = some (.cells n3.toArray 63 (0, 0))
  hg : W.heap[g]? = some (.cells (bookCells X ta tc sa sc) 30 (0, 0))
set_option maxRecDepth 100000 in
set_option maxHeartbeats 8000000 in
theorem LEasier_any (B : Book) (tb tq : Nat) (ta : Option Addr) (tc : Nat) (sb sq : Nat) (sa : Option Addr) (sc : Nat) (n0 n1 n2 n3 : Int) (w : World) (hG : GA w) (hT : SpansAt w.heap.size w tb tq ta B.tides) (hS : SoundsAt w.heap.size w sb sq sa B.sounds) :
    Calls Tryd.prog 12 #[bookVal B ta tc sa sc, .agg #[i64 n0, i64 n1, i64 n2, i64 n3]] w (MoorPost w) := by
  have hb0 : Below w.heap.size w ((w.alloc (.cells (bookCells B ta tc sa sc) 30)).alloc (.cells #[i64 n0, i64 n1, i64 n2, i64 n3] 63)) := ((Below.refl _ w).alloc (Nat.le_refl _) _).alloc (by simp) _
  have hx0 : ((w.alloc (.cells (bookCells B ta tc sa sc) 30)).alloc (.cells #[i64 n0, i64 n1, i64 n2, i64 n3] 63)).heap[w.heap.size]? = some (.cells (bookCells B ta tc sa sc) 30 (0, 0)) := (Below.heap_alloc _ _ _ (by simp)).trans (heap_alloc_new w _)
  have hy0 : ((w.alloc (.cells (bookCells B ta tc sa sc) 30)).alloc (.cells #[i64 n0, i64 n1, i64 n2, i64 n3] 63)).heap[w.heap.size + 1]? = some (.cells #[i64 n0, i64 n1, i64 n2, i64 n3] 63 (0, 0)) := heap_alloc2_new w _ _
  have hx0l := (Array.getElem?_eq_some_iff.1 hx0).1
  have hy0l := (Array.getElem?_eq_some_iff.1 hy0).1
  have hB0 : BookV w (bookVal B ta tc sa sc) B := ⟨tb, tq, ta, tc, sb, sq, sa, sc, rfl, hT, hS⟩
  cases hv : B.valid
  · have hv := Lib.hid hv
    go_enter Tryd.func12, Tryd.ntmps12
    go_wp2_with (first | (refine ld30 rfl _ rfl _ _ rfl hx0 rfl ?_) | (go_at_call 21; refine (sound_v (hB0.below hb0)).mono ?_; rintro e w1 ⟨rfl, hb1⟩; rw [hv.out]; have ha1 := hb0.trans (hb1.mono hb0.size)) | (go_at_call 18; refine (moored_any _ (hG.below ha1)).mono ?_; rintro e w2 ⟨rfl, hb2⟩; have ha2 := ha1.trans (hb2.mono ha1.size)))
    go_ret
    exact ⟨rfl, ha2⟩
  · have hV := valid_iff.1 hv
    have h1 := hV.h1
    have h24 := hV.h24
    have hs := modI_lt (n := n0) (m := 2) (by decide)
    have hh := modI_lt (n := n1) (m := B.tides.length) (by omega)
    have hl := modI_lt (n := n2) (m := 201) (by decide)
    have q : Qs B (modI n0 2) (modI n1 B.tides.length) (modI n2 201) := ⟨hs.1, by omega, hh.1, hh.2, hl.1, by omega⟩
    obtain ⟨s, hs'⟩ : ∃ s, modI n0 2 = s := ⟨_, rfl⟩
    obtain ⟨hr, hh'⟩ : ∃ hr, modI n1 B.tides.length = hr := ⟨_, rfl⟩
    obtain ⟨ld, hl'⟩ : ∃ ld, modI n2 201 = ld := ⟨_, rfl⟩
    rw [hs', hh', hl'] at q
    have hv := Lib.hid hv
    have M0 := fun W => mod_back n0 2 (by decide) W
    have M1 := fun W => mod_back n1 B.tides.length (by omega) W
    have M2 := fun W => mod_back n2 201 (by decide) W
    rw [hs'] at M0
    rw [hh'] at M1
    rw [hl'] at M2
    clear hs hh hl hs' hh' hl'
    go_enter Tryd.func12, Tryd.ntmps12
    go_wp2_with (first | (refine ld30 rfl _ rfl _ _ rfl hx0 rfl ?_) | (go_at_call 21; refine (sound_v (hB0.below hb0)).mono ?_; rintro e w1 ⟨rfl, hb1⟩; rw [hv.out]; have ha1 := hb0.trans (hb1.mono hb0.size); have hx1 := (hb1.block _ hx0l).trans hx0; have hy1 := (hb1.block _ hy0l).trans hy0; have hxc := cells_of hx1; have hyc := cells_of hy1; have hxl := (Array.getElem?_eq_some_iff.1 hx1).1; have hyl := (Array.getElem?_eq_some_iff.1 hy1).1))
    go_quiet ((go_at_call 24; first | with_reducible exact Calls.quiet_of_same (M0 _) | with_reducible exact Calls.quiet_of_same (M1 _) | with_reducible exact Calls.quiet_of_same (M2 _)))
    have hG1 := hG.below ha1
    have hB1 := hB0.below ha1
    refine abs_act (fun W => Below w.heap.size w W ∧ W.heap[w.heap.size]? = some (.cells (bookCells B ta tc sa sc) 30 (0, 0)) ∧ W.heap[w.heap.size + 1]? = some (.cells #[i64 n0, i64 n1, i64 n2, i64 n3] 63 (0, 0)) ∧ GA W ∧ BookV W (bookVal B ta tc sa sc) B) ⟨ha1.trans (drewN_below ha1.size _), hx1, hy1, hG1.below (drewN_below (Nat.le_refl _) _), hB1.below (drewN_below (Nat.le_refl _) _)⟩ ?_
    clear hG1 hB1 ha1 hx1 hy1 hxc hyc hxl hyl hb1 hx0 hy0 hx0l hy0l hb0 M0 M1 M2
    rintro w2 ⟨ha2, hx2, hy2, hG2, hB2⟩
    obtain ⟨c, hc'⟩ : ∃ c, modI n3 5 = c := ⟨_, rfl⟩
    have hc := modI_lt (n := n3) (m := 5) (by decide)
    have M3 := fun W => mod_back n3 5 (by decide) W
    rw [hc'] at hc M3
    clear hc'
    have E := easB_eas hv.out s c
    have hlaw := easier_law E hv.out q
    have hXv : ∀ W, Below w.heap.size w W → BookV W (bookVal (easB B s c) ta tc sa sc) (easB B s c) := fun W h => BookV.below (W := w) ⟨tb, tq, ta, tc, sb, sq, sa, sc, rfl, by rw [E.tides]; exact hT, by rw [E.sounds]; exact hS⟩ h
    have hXw := Lib.hid hXv
    clear E hXv
    rename_i K hK
    refine hK _ _ (cut3 (EasAt w B B ta tc sa sc w2.heap.size s hr ld [i64 n0, i64 n1, i64 n2, i64 n3]) (EasAt w B (easB B s c) ta tc sa sc w2.heap.size s hr ld [i64 n0, i64 n1, i64 n2, i64 n3]) ?_ ?_ ?_) <;> clear hK K
    · have hyl := (Array.getElem?_eq_some_iff.1 hy2).1
      have hxl := (Array.getElem?_eq_some_iff.1 hx2).1
      obtain ⟨hbz, hz2⟩ := zero30_any w2
      have hxz := (hbz.block _ hxl).trans hx2
      have hyz := (hbz.block _ hyl).trans hy2
      clear hlaw hXw M3 hc
      go_wp2_with (first | (refine ld30 rfl _ rfl _ _ rfl hx2 rfl ?_) | (refine st30 rfl _ _ rfl _ (bookCells B ta tc sa sc) zero30 rfl rfl hz2 rfl rfl (by simp [Value.oneCell']) ?_))
      have hst := SetAt.row (w2.alloc (.cells zero30 30)) w2.heap.size (bookCells B ta tc sa sc)
      exact ⟨rfl, rfl, rfl, rfl, rfl, rfl, rfl, rfl, rfl, hst.below (Nat.le_trans (Nat.le_of_lt hxl) (Nat.le_refl _)) (ha2.trans (hbz.mono ha2.size)), (hst.other _ (Nat.ne_of_lt hxl)).trans hxz, (hst.other _ (Nat.ne_of_lt hyl)).trans hyz, setRow_heap _ _ _ _ _ _ hz2⟩
    · rintro a W3 ⟨hsz, hdf, s2, s3, s4, s5, s6, s7, s8, ha3, hx3, hy3, hg3⟩
      rw [act_eta a 221 hsz hdf]
      simp only [show List.range 221 = [0, 1, 2, 3, 4, 5, 6, 7, 8, 9, 10, 11, 12, 13, 14, 15, 16, 17, 18, 19, 20, 21, 22, 23, 24, 25, 26, 27, 28, 29, 30, 31, 32, 33, 34, 35, 36, 37, 38, 39, 40, 41, 42, 43, 44, 45, 46, 47, 48, 49, 50, 51, 52, 53, 54, 55, 56, 57, 58, 59, 60, 61, 62, 63, 64, 65, 66, 67, 68, 69, 70, 71, 72, 73, 74, 75, 76, 77, 78, 79, 80, 81, 82, 83, 84, 85, 86, 87, 88, 89, 90, 91, 92, 93, 94, 95, 96, 97, 98, 99, 100, 101, 102, 103, 104, 105, 106, 107, 108, 109, 110, 111, 112, 113, 114, 115, 116, 117, 118, 119, 120, 121, 122, 123, 124, 125, 126, 127, 128, 129, 130, 131, 132, 133, 134, 135, 136, 137, 138, 139, 140, 141, 142, 143, 144, 145, 146, 147, 148, 149, 150, 151, 152, 153, 154, 155, 156, 157, 158, 159, 160, 161, 162, 163, 164, 165, 166, 167, 168, 169, 170, 171, 172, 173, 174, 175, 176, 177, 178, 179, 180, 181, 182, 183, 184, 185, 186, 187, 188, 189, 190, 191, 192, 193, 194, 195, 196, 197, 198, 199, 200, 201, 202, 203, 204, 205, 206, 207, 208, 209, 210, 211, 212, 213, 214, 215, 216, 217, 218, 219, 220] from rfl, List.map_cons, List.map_nil, s2, s3, s4, s5, s6, s7, s8]
      clear s2 s3 s4 s5 s6 s7 s8 hsz hdf hlaw hXw
      have hgw : w.heap.size ≠ w2.heap.size := Nat.ne_of_lt (Array.getElem?_eq_some_iff.1 hx2).1
      have hgy : w.heap.size + 1 ≠ w2.heap.size := Nat.ne_of_lt (Array.getElem?_eq_some_iff.1 hy2).1
      have hgle : w.heap.size ≤ w2.heap.size := Nat.le_of_lt (Array.getElem?_eq_some_iff.1 hx2).1
      obtain ⟨g, hge⟩ : ∃ g, w2.heap.size = g := ⟨_, rfl⟩
      rw [hge] at hg3 hgw hgle hgy ⊢
      clear hge hx2 hy2 ha2 hG2 hB2
      have hxc := cells_of hx3
      have hxl := (Array.getElem?_eq_some_iff.1 hx3).1
      have hyc := cells_of hy3
      have hyl := (Array.getElem?_eq_some_iff.1 hy3).1
      have hgc := cells_of hg3
      have hgf := frozen_of hg3
      have hgl := (Array.getElem?_eq_some_iff.1 hg3).1
      have hss : s = 0 ∨ s = 1 := by have := q.s0; have := q.s1; omega
      obtain ⟨a1, a2, a3, a4, a5, a6, a7, a8, a9, a10, a11, a12, ⟨b1, b2, b3, b4, b5, b6, b7⟩, ⟨d1, d2, d3, d4, d5, d6, d7⟩, a13⟩ := hV
      rcases (by omega : c = 0 ∨ c = 1 ∨ c = 2 ∨ c = 3 ∨ c = 4) with rfl | rfl | rfl | rfl | rfl
      · rcases hss with rfl | rfl
        · have hw1 : -9223372036854775808 ≤ B.s0.lo - 1 := by omega
          have hw2 : B.s0.lo - 1 ≤ 9223372036854775807 := by omega
          go_wp2_with (first | (go_at_call 24; refine (M3 _).mono ?_; rintro e w4 ⟨rfl, rfl⟩))
          all_goals exact ⟨rfl, rfl, rfl, rfl, rfl, rfl, rfl, rfl, rfl, ha3.setCell (p := ⟨g, 3, none⟩) hgle _, (Below.heap_setCell _ _ _ _ hgw).trans hx3, (Below.heap_setCell _ _ _ _ hgy).trans hy3, (set_book 3 hg3 _).trans (by simp [bookCells, easB]; omega)⟩
        · have hw1 : -9223372036854775808 ≤ B.s1.lo - 1 := by omega
          have hw2 : B.s1.lo - 1 ≤ 9223372036854775807 := by omega
          go_wp2_with (first | (go_at_call 24; refine (M3 _).mono ?_; rintro e w4 ⟨rfl, rfl⟩))
          all_goals exact ⟨rfl, rfl, rfl, rfl, rfl, rfl, rfl, rfl, rfl, ha3.setCell (p := ⟨g, 7, none⟩) hgle _, (Below.heap_setCell _ _ _ _ hgw).trans hx3, (Below.heap_setCell _ _ _ _ hgy).trans hy3, (set_book 7 hg3 _).trans (by simp [bookCells, easB]; omega)⟩
      · rcases hss with rfl | rfl
        · have hw1 : -9223372036854775808 ≤ B.s0.hi + 1 := by omega
          have hw2 : B.s0.hi + 1 ≤ 9223372036854775807 := by omega
          go_wp2_with (first | (go_at_call 24; refine (M3 _).mono ?_; rintro e w4 ⟨rfl, rfl⟩))
          all_goals exact ⟨rfl, rfl, rfl, rfl, rfl, rfl, rfl, rfl, rfl, ha3.setCell (p := ⟨g, 4, none⟩) hgle _, (Below.heap_setCell _ _ _ _ hgw).trans hx3, (Below.heap_setCell _ _ _ _ hgy).trans hy3, (set_book 4 hg3 _).trans (by simp [bookCells, easB]; omega)⟩
        · have hw1 : -9223372036854775808 ≤ B.s1.hi + 1 := by omega
          have hw2 : B.s1.hi + 1 ≤ 9223372036854775807 := by omega
          go_wp2_with (first | (go_at_call 24; refine (M3 _).mono ?_; rintro e w4 ⟨rfl, rfl⟩))
          all_goals exact ⟨rfl, rfl, rfl, rfl, rfl, rfl, rfl, rfl, rfl, ha3.setCell (p := ⟨g, 8, none⟩) hgle _, (Below.heap_setCell _ _ _ _ hgw).trans hx3, (Below.heap_setCell _ _ _ _ hgy).trans hy3, (set_book 8 hg3 _).trans (by simp [bookCells, easB]; omega)⟩
      · have hw1 : -9223372036854775808 ≤ B.under - 1 := by omega
        have hw2 : B.under - 1 ≤ 9223372036854775807 := by omega
        go_wp2_with (first | (go_at_call 24; refine (M3 _).mono ?_; rintro e w4 ⟨rfl, rfl⟩))
        all_goals exact ⟨rfl, rfl, rfl, rfl, rfl, rfl, rfl, rfl, rfl, ha3.setCell (p := ⟨g, 12, none⟩) hgle _, (Below.heap_setCell _ _ _ _ hgw).trans hx3, (Below.heap_setCell _ _ _ _ hgy).trans hy3, (set_book 12 hg3 _).trans (by simp [bookCells, easB]; omega)⟩
      · have hw1 : -9223372036854775808 ≤ B.sink + 1 := by omega
        have hw2 : B.sink + 1 ≤ 9223372036854775807 := by omega
        go_wp2_with (first | (go_at_call 24; refine (M3 _).mono ?_; rintro e w4 ⟨rfl, rfl⟩))
        all_goals exact ⟨rfl, rfl, rfl, rfl, rfl, rfl, rfl, rfl, rfl, ha3.setCell (p := ⟨g, 11, none⟩) hgle _, (Below.heap_setCell _ _ _ _ hgw).trans hx3, (Below.heap_setCell _ _ _ _ hgy).trans hy3, (set_book 11 hg3 _).trans (by simp [bookCells, easB]; omega)⟩
      · have hw1 : -9223372036854775808 ≤ B.el - 1 := by omega
        have hw2 : B.el - 1 ≤ 9223372036854775807 := by omega
        have hw3 : -9223372036854775808 ≤ B.eh - 1 := by omega
        have hw4 : B.eh - 1 ≤ 9223372036854775807 := by omega
        go_wp2_with (first | (go_at_call 24; refine (M3 _).mono ?_; rintro e w4 ⟨rfl, rfl⟩) | (go_at_call 48; refine (range_any _ _ _).mono ?_; rintro e w5 ⟨rfl, hb5⟩; have ha5 := ha3.trans (hb5.mono ha3.size); have hx5 := (hb5.block _ hxl).trans hx3; have hy5 := (hb5.block _ hyl).trans hy3; have hg5 := (hb5.block _ hgl).trans hg3; have hxc5 := cells_of hx5; have hgc5 := cells_of hg5; have hgf5 := frozen_of hg5; have hgl5 := (Array.getElem?_eq_some_iff.1 hg5).1))
        all_goals exact ⟨rfl, rfl, rfl, rfl, rfl, rfl, rfl, rfl, rfl, (ha5.setCell (p := ⟨g, 9, none⟩) hgle _).setCell (p := ⟨g, 10, none⟩) hgle _, (Below.heap_setCell _ _ _ _ hgw).trans ((Below.heap_setCell _ _ _ _ hgw).trans hx5), (Below.heap_setCell _ _ _ _ hgy).trans ((Below.heap_setCell _ _ _ _ hgy).trans hy5), (set_book 10 (set_book 9 hg5 _) _).trans (by simp [bookCells, easB]; omega)⟩
    · rintro a W3 ⟨hsz, hdf, s2, s3, s4, s5, s6, s7, s8, ha3, hx3, hy3, hg3⟩
      clear hy3 s3
      rw [act_eta a 221 hsz hdf]
      simp only [show List.range 221 = [0, 1, 2, 3, 4, 5, 6, 7, 8, 9, 10, 11, 12, 13, 14, 15, 16, 17, 18, 19, 20, 21, 22, 23, 24, 25, 26, 27, 28, 29, 30, 31, 32, 33, 34, 35, 36, 37, 38, 39, 40, 41, 42, 43, 44, 45, 46, 47, 48, 49, 50, 51, 52, 53, 54, 55, 56, 57, 58, 59, 60, 61, 62, 63, 64, 65, 66, 67, 68, 69, 70, 71, 72, 73, 74, 75, 76, 77, 78, 79, 80, 81, 82, 83, 84, 85, 86, 87, 88, 89, 90, 91, 92, 93, 94, 95, 96, 97, 98, 99, 100, 101, 102, 103, 104, 105, 106, 107, 108, 109, 110, 111, 112, 113, 114, 115, 116, 117, 118, 119, 120, 121, 122, 123, 124, 125, 126, 127, 128, 129, 130, 131, 132, 133, 134, 135, 136, 137, 138, 139, 140, 141, 142, 143, 144, 145, 146, 147, 148, 149, 150, 151, 152, 153, 154, 155, 156, 157, 158, 159, 160, 161, 162, 163, 164, 165, 166, 167, 168, 169, 170, 171, 172, 173, 174, 175, 176, 177, 178, 179, 180, 181, 182, 183, 184, 185, 186, 187, 188, 189, 190, 191, 192, 193, 194, 195, 196, 197, 198, 199, 200, 201, 202, 203, 204, 205, 206, 207, 208, 209, 210, 211, 212, 213, 214, 215, 216, 217, 218, 219, 220] from rfl, List.map_cons, List.map_nil, s2, s4, s5, s6, s7, s8]
      clear s2 s4 s5 s6 s7 s8 hsz hdf
      have hG3 := hG.below ha3
      have hB3 := hB0.below ha3
      have hX3 := hXw.out W3 ha3
      obtain ⟨X, hXe⟩ : ∃ X, easB B s c = X := ⟨_, rfl⟩
      rw [hXe] at hX3 hg3 hlaw
      clear hXe hXw M3 hc hx2 hy2 hG2 hB2 ha2
      rcases hlaw with ⟨hf, hf2⟩ | ⟨k, k2, m, e, m2, e2, n, i, n2, i2, L, M, hl, hl2, hkk, hm, hm2, hme, hn, hn2, hni, hbo, hbo2, hLM⟩
      · have hf := Lib.hid hf
        have hf2 := Lib.hid hf2
        go_wp2_with (refine ld30 rfl _ rfl _ _ rfl hx3 rfl ?_)
        refine (lands_v hG3 hB3 s hr ld).mono ?_
        rintro e w4 ⟨rfl, hb4⟩
        rw [hf.out]
        have hx4 := (hb4.block _ (Array.getElem?_eq_some_iff.1 hx3).1).trans hx3
        have hg4 := (hb4.block _ (Array.getElem?_eq_some_iff.1 hg3).1).trans hg3
        have hG4 := hG3.below hb4
        have hB4 := hB3.below hb4
        have hX4 := hX3.below hb4
        have ha4 := ha3.trans (hb4.mono ha3.size)
        clear hb4 hx3 hg3 hG3 hB3 hX3 ha3
        go_wp2_with (refine ld30 rfl _ rfl _ _ rfl hg4 rfl ?_)
        refine (lands_v hG4 hX4 s hr ld).mono ?_
        rintro e w5 ⟨rfl, hb5⟩
        rw [hf2.out]
        have hx5 := (hb5.block _ (Array.getElem?_eq_some_iff.1 hx4).1).trans hx4
        have hg5 := (hb5.block _ (Array.getElem?_eq_some_iff.1 hg4).1).trans hg4
        have hG5 := hG4.below hb5
        have hB5 := hB4.below hb5
        have hX5 := hX4.below hb5
        have ha5 := ha4.trans (hb5.mono ha4.size)
        clear hb5 hx4 hg4 hG4 hB4 hX4 ha4
        go_wp2_with (go_at_call 18; refine (moored_any _ hG5).mono ?_; rintro e w6 ⟨rfl, hb6⟩)
        go_ret
        exact ⟨rfl, ha5.trans (hb6.mono ha5.size)⟩
      · have hl := Lib.hid hl
        have hl2 := Lib.hid hl2
        have hm := Lib.hid hm
        have hm2 := Lib.hid hm2
        have hn := Lib.hid hn
        have hn2 := Lib.hid hn2
        have hbo := Lib.hid hbo
        have hbo2 := Lib.hid hbo2
        have hLM := Lib.hid hLM
        have hkk2 : decide (k2 < k) = false := by simp; omega
        go_wp2_with (refine ld30 rfl _ rfl _ _ rfl hx3 rfl ?_)
        refine (lands_v hG3 hB3 s hr ld).mono ?_
        rintro e w4 ⟨rfl, hb4⟩
        rw [hl.out]
        have hx4 := (hb4.block _ (Array.getElem?_eq_some_iff.1 hx3).1).trans hx3
        have hg4 := (hb4.block _ (Array.getElem?_eq_some_iff.1 hg3).1).trans hg3
        have hG4 := hG3.below hb4
        have hB4 := hB3.below hb4
        have hX4 := hX3.below hb4
        have ha4 := ha3.trans (hb4.mono ha3.size)
        clear hb4 hx3 hg3 hG3 hB3 hX3 ha3
        go_wp2_with (refine ld30 rfl _ rfl _ _ rfl hg4 rfl ?_)
        refine (lands_v hG4 hX4 s hr ld).mono ?_
        rintro e w5 ⟨rfl, hb5⟩
        rw [hl2.out]
        have hx5 := (hb5.block _ (Array.getElem?_eq_some_iff.1 hx4).1).trans hx4
        have hg5 := (hb5.block _ (Array.getElem?_eq_some_iff.1 hg4).1).trans hg4
        have hG5 := hG4.below hb5
        have hB5 := hB4.below hb5
        have hX5 := hX4.below hb5
        have ha5 := ha4.trans (hb5.mono ha4.size)
        clear hb5 hx4 hg4 hG4 hB4 hX4 ha4
        go_wp2_with (refine ld30 rfl _ rfl _ _ rfl hx5 rfl ?_)
        refine (most_v hG5 hB5 s hr).mono ?_
        rintro e w6 ⟨rfl, hb6⟩
        rw [hm.out]
        have hx6 := (hb6.block _ (Array.getElem?_eq_some_iff.1 hx5).1).trans hx5
        have hg6 := (hb6.block _ (Array.getElem?_eq_some_iff.1 hg5).1).trans hg5
        have hG6 := hG5.below hb6
        have hB6 := hB5.below hb6
        have hX6 := hX5.below hb6
        have ha6 := ha5.trans (hb6.mono ha5.size)
        clear hb6 hx5 hg5 hG5 hB5 hX5 ha5
        go_wp2_with (refine ld30 rfl _ rfl _ _ rfl hg6 rfl ?_)
        refine (most_v hG6 hX6 s hr).mono ?_
        rintro e w7 ⟨rfl, hb7⟩
        rw [hm2.out]
        have hx7 := (hb7.block _ (Array.getElem?_eq_some_iff.1 hx6).1).trans hx6
        have hg7 := (hb7.block _ (Array.getElem?_eq_some_iff.1 hg6).1).trans hg6
        have hG7 := hG6.below hb7
        have hB7 := hB6.below hb7
        have hX7 := hX6.below hb7
        have ha7 := ha6.trans (hb7.mono ha6.size)
        clear hb7 hx6 hg6 hG6 hB6 hX6 ha6
        go_wp2_with (refine ld30 rfl _ rfl _ _ rfl hx7 rfl ?_)
        refine (first_v hG7 hB7 s ld).mono ?_
        rintro e w8 ⟨rfl, hb8⟩
        rw [hn.out]
        have hx8 := (hb8.block _ (Array.getElem?_eq_some_iff.1 hx7).1).trans hx7
        have hg8 := (hb8.block _ (Array.getElem?_eq_some_iff.1 hg7).1).trans hg7
        have hG8 := hG7.below hb8
        have hB8 := hB7.below hb8
        have hX8 := hX7.below hb8
        have ha8 := ha7.trans (hb8.mono ha7.size)
        clear hb8 hx7 hg7 hG7 hB7 hX7 ha7
        go_wp2_with (refine ld30 rfl _ rfl _ _ rfl hg8 rfl ?_)
        refine (first_v hG8 hX8 s ld).mono ?_
        rintro e w9 ⟨rfl, hb9⟩
        rw [hn2.out]
        have hx9 := (hb9.block _ (Array.getElem?_eq_some_iff.1 hx8).1).trans hx8
        have hg9 := (hb9.block _ (Array.getElem?_eq_some_iff.1 hg8).1).trans hg8
        have hG9 := hG8.below hb9
        have hB9 := hB8.below hb9
        have hX9 := hX8.below hb9
        have ha9 := ha8.trans (hb9.mono ha8.size)
        clear hb9 hx8 hg8 hG8 hB8 hX8 ha8
        go_wp2_with (refine ld30 rfl _ rfl _ _ rfl hx9 rfl ?_)
        refine (both_v hG9 hB9 ld).mono ?_
        rintro e w10 ⟨vL, rfl, hb10, hL10⟩
        have hx10 := (hb10.block _ (Array.getElem?_eq_some_iff.1 hx9).1).trans hx9
        have hg10 := (hb10.block _ (Array.getElem?_eq_some_iff.1 hg9).1).trans hg9
        have hG10 := hG9.below hb10
        have hB10 := hB9.below hb10
        have hX10 := hX9.below hb10
        have ha10 := ha9.trans (hb10.mono ha9.size)
        rw [hbo.out] at hL10 ⊢
        clear hb10 hx9 hg9 hG9 hB9 hX9 ha9
        go_wp2_with (refine ld30 rfl _ rfl _ _ rfl hg10 rfl ?_)
        refine (both_v hG10 hX10 ld).mono ?_
        rintro e w11 ⟨vM, rfl, hb11, hM11⟩
        have hx11 := (hb11.block _ (Array.getElem?_eq_some_iff.1 hx10).1).trans hx10
        have hg11 := (hb11.block _ (Array.getElem?_eq_some_iff.1 hg10).1).trans hg10
        have hG11 := hG10.below hb11
        have hB11 := hB10.below hb11
        have hX11 := hX10.below hb11
        have ha11 := ha10.trans (hb11.mono ha10.size)
        rw [hbo2.out] at hM11 ⊢
        have hL11 := hL10.below hb11
        clear hL10 hb11 hx10 hg10 hG10 hB10 hX10 ha10
        obtain ⟨b, o, a, cc, rfl, hlc, hI⟩ := hL11
        have hLl := hI.len
        rcases hme with ⟨rfl, rfl, hmm⟩ | rfl
        · have hmm2 : decide (m2 < m) = false := by simp; omega
          rcases hni with ⟨rfl, rfl, hnn⟩ | rfl
          · have hnn2 : decide (n < n2) = false := by simp; omega
            go_wp2_with fail
            go_loopw [25] (fun i wr => ∃ j : Nat, j ≤ L.length ∧ i = .int .i64 j ∧ Below w11.heap.size w11 wr) (fun i _ => L.length - (intOf i).toNat)
            case atStart => exact ⟨0, Nat.zero_le _, rfl, Below.refl _ _⟩
            case round =>
              obtain ⟨j, hj, rfl, hbw⟩ := hrel
              have hIw := hI.same (Same.of_below hbw)
              have hMw := hM11.below hbw
              have hGw := hG11.below hbw
              by_cases hlt : j < L.length
              · have hi1 : ∀ W, (Instr.indexAt 40 (.slice a L.length cc) (.int .i64 (j : Int))).run Tryd.prog W = .ok (.pointer (some ⟨b, o + j, none⟩)) W := fun W => idx40 W (hIw.at_ (ne_nil_of_lt hlt)) hlt
                have hc1 := hIw.cell j hlt
                have hneg : decide (idxI M L[j] < 0) = false := by have := hLM.out L[j] (List.getElem_mem hlt); simp; omega
                have hlt2 : (j : Int) < (L.length : Int) := by omega
                go_wp2_with (go_at_call 44; refine (at_v hMw _).mono ?_; rintro e w12 ⟨rfl, rfl⟩)
                go_roundw
                case rel => first | exact ⟨j + 1, by omega, by go_num, hbw⟩ | ((repeat apply Exists.intro); refine ⟨?_, rfl⟩; exact ⟨j + 1, by omega, by go_num, hbw⟩)
                case measure => simp [intOf]; omega
              · have hlt2 : ¬ (j : Int) < (L.length : Int) := by omega
                go_wp2_with (go_at_call 18; refine (moored_any _ hGw).mono ?_; rintro e w13 ⟨rfl, hb13⟩)
                go_ret
                exact ⟨rfl, ha11.trans ((hbw.mono ha11.size).trans (hb13.mono (Nat.le_trans ha11.size hbw.size)))⟩
          · go_wp2_with fail
            go_loopw [25] (fun i wr => ∃ j : Nat, j ≤ L.length ∧ i = .int .i64 j ∧ Below w11.heap.size w11 wr) (fun i _ => L.length - (intOf i).toNat)
            case atStart => exact ⟨0, Nat.zero_le _, rfl, Below.refl _ _⟩
            case round =>
              obtain ⟨j, hj, rfl, hbw⟩ := hrel
              have hIw := hI.same (Same.of_below hbw)
              have hMw := hM11.below hbw
              have hGw := hG11.below hbw
              by_cases hlt : j < L.length
              · have hi1 : ∀ W, (Instr.indexAt 40 (.slice a L.length cc) (.int .i64 (j : Int))).run Tryd.prog W = .ok (.pointer (some ⟨b, o + j, none⟩)) W := fun W => idx40 W (hIw.at_ (ne_nil_of_lt hlt)) hlt
                have hc1 := hIw.cell j hlt
                have hneg : decide (idxI M L[j] < 0) = false := by have := hLM.out L[j] (List.getElem_mem hlt); simp; omega
                have hlt2 : (j : Int) < (L.length : Int) := by omega
                go_wp2_with (go_at_call 44; refine (at_v hMw _).mono ?_; rintro e w12 ⟨rfl, rfl⟩)
                go_roundw
                case rel => first | exact ⟨j + 1, by omega, by go_num, hbw⟩ | ((repeat apply Exists.intro); refine ⟨?_, rfl⟩; exact ⟨j + 1, by omega, by go_num, hbw⟩)
                case measure => simp [intOf]; omega
              · have hlt2 : ¬ (j : Int) < (L.length : Int) := by omega
                go_wp2_with (go_at_call 18; refine (moored_any _ hGw).mono ?_; rintro e w13 ⟨rfl, hb13⟩)
                go_ret
                exact ⟨rfl, ha11.trans ((hbw.mono ha11.size).trans (hb13.mono (Nat.le_trans ha11.size hbw.size)))⟩
        · rcases hni with ⟨rfl, rfl, hnn⟩ | rfl
          · have hnn2 : decide (n < n2) = false := by simp; omega
            go_wp2_with fail
            go_loopw [25] (fun i wr => ∃ j : Nat, j ≤ L.length ∧ i = .int .i64 j ∧ Below w11.heap.size w11 wr) (fun i _ => L.length - (intOf i).toNat)
            case atStart => exact ⟨0, Nat.zero_le _, rfl, Below.refl _ _⟩
            case round =>
              obtain ⟨j, hj, rfl, hbw⟩ := hrel
              have hIw := hI.same (Same.of_below hbw)
              have hMw := hM11.below hbw
              have hGw := hG11.below hbw
              by_cases hlt : j < L.length
              · have hi1 : ∀ W, (Instr.indexAt 40 (.slice a L.length cc) (.int .i64 (j : Int))).run Tryd.prog W = .ok (.pointer (some ⟨b, o + j, none⟩)) W := fun W => idx40 W (hIw.at_ (ne_nil_of_lt hlt)) hlt
                have hc1 := hIw.cell j hlt
                have hneg : decide (idxI M L[j] < 0) = false := by have := hLM.out L[j] (List.getElem_mem hlt); simp; omega
                have hlt2 : (j : Int) < (L.length : Int) := by omega
                go_wp2_with (go_at_call 44; refine (at_v hMw _).mono ?_; rintro e w12 ⟨rfl, rfl⟩)
                go_roundw
                case rel => first | exact ⟨j + 1, by omega, by go_num, hbw⟩ | ((repeat apply Exists.intro); refine ⟨?_, rfl⟩; exact ⟨j + 1, by omega, by go_num, hbw⟩)
                case measure => simp [intOf]; omega
              · have hlt2 : ¬ (j : Int) < (L.length : Int) := by omega
                go_wp2_with (go_at_call 18; refine (moored_any _ hGw).mono ?_; rintro e w13 ⟨rfl, hb13⟩)
                go_ret
                exact ⟨rfl, ha11.trans ((hbw.mono ha11.size).trans (hb13.mono (Nat.le_trans ha11.size hbw.size)))⟩
          · go_wp2_with fail
            go_loopw [25] (fun i wr => ∃ j : Nat, j ≤ L.length ∧ i = .int .i64 j ∧ Below w11.heap.size w11 wr) (fun i _ => L.length - (intOf i).toNat)
            case atStart => exact ⟨0, Nat.zero_le _, rfl, Below.refl _ _⟩
            case round =>
              obtain ⟨j, hj, rfl, hbw⟩ := hrel
              have hIw := hI.same (Same.of_below hbw)
              have hMw := hM11.below hbw
              have hGw := hG11.below hbw
              by_cases hlt : j < L.length
              · have hi1 : ∀ W, (Instr.indexAt 40 (.slice a L.length cc) (.int .i64 (j : Int))).run Tryd.prog W = .ok (.pointer (some ⟨b, o + j, none⟩)) W := fun W => idx40 W (hIw.at_ (ne_nil_of_lt hlt)) hlt
                have hc1 := hIw.cell j hlt
                have hneg : decide (idxI M L[j] < 0) = false := by have := hLM.out L[j] (List.getElem_mem hlt); simp; omega
                have hlt2 : (j : Int) < (L.length : Int) := by omega
                go_wp2_with (go_at_call 44; refine (at_v hMw _).mono ?_; rintro e w12 ⟨rfl, rfl⟩)
                go_roundw
                case rel => first | exact ⟨j + 1, by omega, by go_num, hbw⟩ | ((repeat apply Exists.intro); refine ⟨?_, rfl⟩; exact ⟨j + 1, by omega, by go_num, hbw⟩)
                case measure => simp [intOf]; omega
              · have hlt2 : ¬ (j : Int) < (L.length : Int) := by omega
                go_wp2_with (go_at_call 18; refine (moored_any _ hGw).mono ?_; rintro e w13 ⟨rfl, hb13⟩)
                go_ret
                exact ⟨rfl, ha11.trans ((hbw.mono ha11.size).trans (hb13.mono (Nat.le_trans ha11.size hbw.size)))⟩
theorem LEasier_v {B : Book} {v : Value} {w : World} (hG : GA w) (hB : BookV w v B) (n0 n1 n2 n3 : Int) : Calls Tryd.prog 12 #[v, .agg #[i64 n0, i64 n1, i64 n2, i64 n3]] w (MoorPost w) := by
  obtain ⟨tb, tq, ta, tc, sb, sq, sa, sc, rfl, hT, hS⟩ := hB
  exact LEasier_any B tb tq ta tc sb sq sa sc n0 n1 n2 n3 w hG hT hS
end Go.Proofs.YtkbmpkdflgimmaaDoor
