/- LandingMost answers true of every book and of all numbers. -/
import Derived.Test.YtkbmpkdflgimmaaDoorPure3
namespace Go.Proofs.YtkbmpkdflgimmaaDoor
open Go.RowKit Go.Shelf

theorem abs_act {Q : Exit → Act → World → Prop} {e : Exit} {a : Act} {w : World} (F : World → Prop) (hF : F w) (h : ∀ w', F w' → Q e a w') : Q e a w := h w hF
theorem drewN_below {n : Nat} {W : World} (_h : n ≤ W.heap.size) (k : Nat) : Below n W (W.drewN k) := ⟨rfl, rfl, rfl, Nat.le_refl _, fun _ _ => rfl⟩
theorem mod_back (n m : Int) (hm : m ≤ 1000000) (w : World) : Calls Tryd.prog 24 #[i64 n, i64 m] w fun e w' => e = .returned (i64 (modI n m)) ∧ w' = w :=
  (mod_any n m hm w).mono fun _ _ ⟨h1, h2⟩ => ⟨h1, h2.symm⟩
set_option maxRecDepth 100000 in
set_option maxHeartbeats 4000000 in
theorem LMost_any (B : Book) (tb tq : Nat) (ta : Option Addr) (tc : Nat) (sb sq : Nat) (sa : Option Addr) (sc : Nat) (n0 n1 n2 : Int) (w : World) (hG : GA w) (hT : SpansAt w.heap.size w tb tq ta B.tides) (hS : SoundsAt w.heap.size w sb sq sa B.sounds) :
    Calls Tryd.prog 9 #[bookVal B ta tc sa sc, .agg #[i64 n0, i64 n1, i64 n2]] w (MoorPost w) := by
  have hb0 : Below w.heap.size w ((w.alloc (.cells (bookCells B ta tc sa sc) 30)).alloc (.cells #[i64 n0, i64 n1, i64 n2] 37)) := ((Below.refl _ w).alloc (Nat.le_refl _) _).alloc (by simp) _
  have hx0 : ((w.alloc (.cells (bookCells B ta tc sa sc) 30)).alloc (.cells #[i64 n0, i64 n1, i64 n2] 37)).heap[w.heap.size]? = some (.cells (bookCells B ta tc sa sc) 30 (0, 0)) := (Below.heap_alloc _ _ _ (by simp)).trans (heap_alloc_new w _)
  have hy0 : ((w.alloc (.cells (bookCells B ta tc sa sc) 30)).alloc (.cells #[i64 n0, i64 n1, i64 n2] 37)).heap[w.heap.size + 1]? = some (.cells #[i64 n0, i64 n1, i64 n2] 37 (0, 0)) := heap_alloc2_new w _ _
  have hx0l := (Array.getElem?_eq_some_iff.1 hx0).1
  have hy0l := (Array.getElem?_eq_some_iff.1 hy0).1
  have hB0 : BookV w (bookVal B ta tc sa sc) B := ⟨tb, tq, ta, tc, sb, sq, sa, sc, rfl, hT, hS⟩
  cases hv : B.valid
  · have hv := Lib.hid hv
    go_enter Tryd.func9, Tryd.ntmps9
    go_wp2_with (first | (refine ld30 rfl _ rfl _ _ rfl hx0 rfl ?_) | (go_at_call 21; refine (sound_v (hB0.below hb0)).mono ?_; rintro e w1 ⟨rfl, hb1⟩; rw [hv.out]; have ha1 := hb0.trans (hb1.mono hb0.size)) | (go_at_call 18; refine (moored_any _ (hG.below ha1)).mono ?_; rintro e w2 ⟨rfl, hb2⟩; have ha2 := ha1.trans (hb2.mono ha1.size)))
    go_ret
    exact ⟨rfl, ha2⟩
  · have hV := valid_iff.1 hv
    have h1 := hV.h1
    have h24 := hV.h24
    have hs := modI_lt (n := n0) (m := 2) (by decide)
    have hh := modI_lt (n := n1) (m := B.tides.length) (by omega)
    have hl := modI_lt (n := n2) (m := 201) (by decide)
    have q : Qs B (modI n0 2) (modI n1 B.tides.length) (modI n2 201) := ⟨hs.1, by omega, hh.1, hh.2, hl.1, by omega⟩
    have hlaw := most_law hv q
    obtain ⟨s, hs'⟩ : ∃ s, modI n0 2 = s := ⟨_, rfl⟩
    obtain ⟨hr, hh'⟩ : ∃ hr, modI n1 B.tides.length = hr := ⟨_, rfl⟩
    obtain ⟨ld, hl'⟩ : ∃ ld, modI n2 201 = ld := ⟨_, rfl⟩
    rw [hs', hh', hl'] at hlaw
    have hv := Lib.hid hv
    have M0 := fun W => mod_back n0 2 (by decide) W
    have M1 := fun W => mod_back n1 B.tides.length (by omega) W
    have M2 := fun W => mod_back n2 201 (by decide) W
    rw [hs'] at M0
    rw [hh'] at M1
    rw [hl'] at M2
    clear hs hh hl q hs' hh' hl'
    go_enter Tryd.func9, Tryd.ntmps9
    go_wp2_with (first | (refine ld30 rfl _ rfl _ _ rfl hx0 rfl ?_) | (go_at_call 21; refine (sound_v (hB0.below hb0)).mono ?_; rintro e w1 ⟨rfl, hb1⟩; rw [hv.out]; have ha1 := hb0.trans (hb1.mono hb0.size); have hx1 := (hb1.block _ hx0l).trans hx0; have hy1 := (hb1.block _ hy0l).trans hy0; have hxc := cells_of hx1; have hyc := cells_of hy1; have hxl := (Array.getElem?_eq_some_iff.1 hx1).1; have hyl := (Array.getElem?_eq_some_iff.1 hy1).1))
    go_quiet ((go_at_call 24; first | with_reducible exact Calls.quiet_of_same (M0 _) | with_reducible exact Calls.quiet_of_same (M1 _) | with_reducible exact Calls.quiet_of_same (M2 _)))
    have hG1 := hG.below ha1
    have hB1 := hB0.below ha1
    refine abs_act (fun W => Below w.heap.size w W ∧ W.heap[w.heap.size]? = some (.cells (bookCells B ta tc sa sc) 30 (0, 0)) ∧ GA W ∧ BookV W (bookVal B ta tc sa sc) B) ⟨ha1.trans (drewN_below ha1.size _), hx1, hG1.below (drewN_below (Nat.le_refl _) _), hB1.below (drewN_below (Nat.le_refl _) _)⟩ ?_
    clear hG1 hB1 ha1 hx1 hy1 hxc hyc hxl hyl hb1 hx0 hy0 hx0l hy0l hb0
    rintro w2 ⟨ha2, hx2, hG2, hB2⟩
    rcases hlaw with ⟨hl, hm⟩ | ⟨k, hl, hk, hm⟩ | ⟨m, k, hm, hl, ⟨hm0, hm1⟩, hl2, hcase⟩
    · have hl := Lib.hid hl
      have hm := Lib.hid hm
      go_wp2_with (refine ld30 rfl _ rfl _ _ rfl hx2 rfl ?_)
      refine (most_v hG2 hB2 s hr).mono ?_
      rintro e w3 ⟨rfl, hb3⟩
      rw [hm.out]
      have hx3 := (hb3.block _ (Array.getElem?_eq_some_iff.1 hx2).1).trans hx2
      have hG3 := hG2.below hb3
      have hB3 := hB2.below hb3
      have ha3 := ha2.trans (hb3.mono ha2.size)
      clear hb3 hx2 hG2 hB2 ha2
      go_wp2_with (refine ld30 rfl _ rfl _ _ rfl hx3 rfl ?_)
      refine (lands_v hG3 hB3 s hr ld).mono ?_
      rintro e w4 ⟨rfl, hb4⟩
      rw [hl.out]
      have hx4 := (hb4.block _ (Array.getElem?_eq_some_iff.1 hx3).1).trans hx3
      have hG4 := hG3.below hb4
      have hB4 := hB3.below hb4
      have ha4 := ha3.trans (hb4.mono ha3.size)
      clear hb4 hx3 hG3 hB3 ha3
      go_wp2_with (go_at_call 18; refine (moored_any _ hG4).mono ?_; rintro e w5 ⟨rfl, hb5⟩)
      go_ret
      exact ⟨rfl, ha4.trans (hb5.mono ha4.size)⟩
    · have hl := Lib.hid hl
      have hm := Lib.hid hm
      go_wp2_with (refine ld30 rfl _ rfl _ _ rfl hx2 rfl ?_)
      refine (most_v hG2 hB2 s hr).mono ?_
      rintro e w3 ⟨rfl, hb3⟩
      rw [hm.out]
      have hx3 := (hb3.block _ (Array.getElem?_eq_some_iff.1 hx2).1).trans hx2
      have hG3 := hG2.below hb3
      have hB3 := hB2.below hb3
      have ha3 := ha2.trans (hb3.mono ha2.size)
      clear hb3 hx2 hG2 hB2 ha2
      go_wp2_with (refine ld30 rfl _ rfl _ _ rfl hx3 rfl ?_)
      refine (lands_v hG3 hB3 s hr ld).mono ?_
      rintro e w4 ⟨rfl, hb4⟩
      rw [hl.out]
      have hx4 := (hb4.block _ (Array.getElem?_eq_some_iff.1 hx3).1).trans hx3
      have hG4 := hG3.below hb4
      have hB4 := hB3.below hb4
      have ha4 := ha3.trans (hb4.mono ha3.size)
      clear hb4 hx3 hG3 hB3 ha3
      go_wp2_with (go_at_call 18; refine (moored_any _ hG4).mono ?_; rintro e w5 ⟨rfl, hb5⟩)
      go_ret
      exact ⟨rfl, ha4.trans (hb5.mono ha4.size)⟩
    · have hl := Lib.hid hl
      have hm := Lib.hid hm
      have hl2 := Lib.hid hl2
      have hin := Lib.hid (inB_true hm0 hm1)
      rcases hcase with ⟨hk, hlm⟩ | ⟨hk, hlm⟩
      · obtain rfl := hk
        go_wp2_with (refine ld30 rfl _ rfl _ _ rfl hx2 rfl ?_)
        refine (most_v hG2 hB2 s hr).mono ?_
        rintro e w3 ⟨rfl, hb3⟩
        rw [hm.out]
        have hx3 := (hb3.block _ (Array.getElem?_eq_some_iff.1 hx2).1).trans hx2
        have hG3 := hG2.below hb3
        have hB3 := hB2.below hb3
        have ha3 := ha2.trans (hb3.mono ha2.size)
        clear hb3 hx2 hG2 hB2 ha2
        go_wp2_with (refine ld30 rfl _ rfl _ _ rfl hx3 rfl ?_)
        refine (lands_v hG3 hB3 s hr ld).mono ?_
        rintro e w4 ⟨rfl, hb4⟩
        rw [hl.out]
        have hx4 := (hb4.block _ (Array.getElem?_eq_some_iff.1 hx3).1).trans hx3
        have hG4 := hG3.below hb4
        have hB4 := hB3.below hb4
        have ha4 := ha3.trans (hb4.mono ha3.size)
        clear hb4 hx3 hG3 hB3 ha3
        go_wp2_with (refine ld30 rfl _ rfl _ _ rfl hx4 rfl ?_)
        refine (lands_v hG4 hB4 s hr m).mono ?_
        rintro e w5 ⟨rfl, hb5⟩
        rw [hl2.out]
        have hx5 := (hb5.block _ (Array.getElem?_eq_some_iff.1 hx4).1).trans hx4
        have hG5 := hG4.below hb5
        have hB5 := hB4.below hb5
        have ha5 := ha4.trans (hb5.mono ha4.size)
        clear hb5 hx4 hG4 hB4 ha4
        go_wp2_with (first | (go_at_call 31; refine (inside_any _ _ _ _).mono ?_; rintro e w6 ⟨rfl, rfl⟩; rw [hin.out]) | (go_at_call 18; refine (moored_any _ hG5).mono ?_; rintro e w7 ⟨rfl, hb7⟩))
        go_ret
        exact ⟨rfl, ha5.trans (hb7.mono ha5.size)⟩
      · have hk' : (k == 2) = false := by simp; omega
        have hlm' : decide (ld ≤ m) = false := by simp; omega
        go_wp2_with (refine ld30 rfl _ rfl _ _ rfl hx2 rfl ?_)
        refine (most_v hG2 hB2 s hr).mono ?_
        rintro e w3 ⟨rfl, hb3⟩
        rw [hm.out]
        have hx3 := (hb3.block _ (Array.getElem?_eq_some_iff.1 hx2).1).trans hx2
        have hG3 := hG2.below hb3
        have hB3 := hB2.below hb3
        have ha3 := ha2.trans (hb3.mono ha2.size)
        clear hb3 hx2 hG2 hB2 ha2
        go_wp2_with (refine ld30 rfl _ rfl _ _ rfl hx3 rfl ?_)
        refine (lands_v hG3 hB3 s hr ld).mono ?_
        rintro e w4 ⟨rfl, hb4⟩
        rw [hl.out]
        have hx4 := (hb4.block _ (Array.getElem?_eq_some_iff.1 hx3).1).trans hx3
        have hG4 := hG3.below hb4
        have hB4 := hB3.below hb4
        have ha4 := ha3.trans (hb4.mono ha3.size)
        clear hb4 hx3 hG3 hB3 ha3
        go_wp2_with (refine ld30 rfl _ rfl _ _ rfl hx4 rfl ?_)
        refine (lands_v hG4 hB4 s hr m).mono ?_
        rintro e w5 ⟨rfl, hb5⟩
        rw [hl2.out]
        have hx5 := (hb5.block _ (Array.getElem?_eq_some_iff.1 hx4).1).trans hx4
        have hG5 := hG4.below hb5
        have hB5 := hB4.below hb5
        have ha5 := ha4.trans (hb5.mono ha4.size)
        clear hb5 hx4 hG4 hB4 ha4
        go_wp2_with (first | (go_at_call 31; refine (inside_any _ _ _ _).mono ?_; rintro e w6 ⟨rfl, rfl⟩; rw [hin.out]) | (go_at_call 18; refine (moored_any _ hG5).mono ?_; rintro e w7 ⟨rfl, hb7⟩))
        go_ret
        exact ⟨rfl, ha5.trans (hb7.mono ha5.size)⟩
theorem LMost_v {B : Book} {v : Value} {w : World} (hG : GA w) (hB : BookV w v B) (n0 n1 n2 : Int) : Calls Tryd.prog 9 #[v, .agg #[i64 n0, i64 n1, i64 n2]] w (MoorPost w) := by
  obtain ⟨tb, tq, ta, tc, sb, sq, sa, sc, rfl, hT, hS⟩ := hB
  exact LMost_any B tb tq ta tc sb sq sa sc n0 n1 n2 w hG hT hS
end Go.Proofs.YtkbmpkdflgimmaaDoor
