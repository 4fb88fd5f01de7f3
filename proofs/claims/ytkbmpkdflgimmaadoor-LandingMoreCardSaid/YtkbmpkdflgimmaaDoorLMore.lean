/- LandingMore answers true of every book, every sounding and all numbers. -/
import Derived.Test.YtkbmpkdflgimmaaDoorPure6
namespace Go.Proofs.YtkbmpkdflgimmaaDoor
open Go.RowKit Go.Shelf

theorem box24 (w : World) (a b : Int) : Below w.heap.size w (w.alloc (.cells #[i64 a, i64 b] 24)) ∧ (w.alloc (.cells #[i64 a, i64 b] 24)).heap[w.heap.size]? = some (.cells #[i64 a, i64 b] 24 (0, 0)) :=
  ⟨(Below.refl _ w).alloc (Nat.le_refl _) _, heap_alloc_new w _⟩
theorem box30 (w : World) (cs : Array Value) : Below w.heap.size w ((w.alloc (.cells zero30 30)).setRow w.heap.size cs) ∧ ((w.alloc (.cells zero30 30)).setRow w.heap.size cs).heap[w.heap.size]? = some (.cells cs 30 (0, 0)) :=
  ⟨(SetAt.row _ _ cs).below (Nat.le_refl _) ((Below.refl _ w).alloc (Nat.le_refl _) _), setRow_heap _ _ _ _ _ _ (heap_alloc_new w _)⟩

set_option maxRecDepth 100000 in
set_option maxHeartbeats 3000000 in
theorem LMore_any (B : Book) (d : Sound) (tb tq : Nat) (ta : Option Addr) (tc : Nat) (sb sq : Nat) (sa : Option Addr) (sc : Nat) (n0 n1 n2 : Int) (w : World) (hG : GA w) (hT : SpansAt w.heap.size w tb tq ta B.tides) (hS : SoundsAt w.heap.size w sb sq sa B.sounds) :
    Calls Tryd.prog 8 #[bookVal B ta tc sa sc, .agg #[i64 d.hour, i64 d.shore, i64 d.deep], .agg #[i64 n0, i64 n1, i64 n2]] w (MoorPost w) := by
  have hb0 : Below w.heap.size w (((w.alloc (.cells (bookCells B ta tc sa sc) 30)).alloc (.cells #[i64 d.hour, i64 d.shore, i64 d.deep] 70)).alloc (.cells #[i64 n0, i64 n1, i64 n2] 37)) := (((Below.refl _ w).alloc (Nat.le_refl _) _).alloc (by simp <;> omega) _).alloc (by simp <;> omega) _
  have hx0 : (((w.alloc (.cells (bookCells B ta tc sa sc) 30)).alloc (.cells #[i64 d.hour, i64 d.shore, i64 d.deep] 70)).alloc (.cells #[i64 n0, i64 n1, i64 n2] 37)).heap[w.heap.size]? = some (.cells (bookCells B ta tc sa sc) 30 (0, 0)) := (Below.heap_alloc _ _ _ (by simp <;> omega)).trans ((Below.heap_alloc _ _ _ (by simp <;> omega)).trans (heap_alloc_new w _))
  have hd0 : (((w.alloc (.cells (bookCells B ta tc sa sc) 30)).alloc (.cells #[i64 d.hour, i64 d.shore, i64 d.deep] 70)).alloc (.cells #[i64 n0, i64 n1, i64 n2] 37)).heap[w.heap.size + 1]? = some (.cells #[i64 d.hour, i64 d.shore, i64 d.deep] 70 (0, 0)) := (Below.heap_alloc _ _ _ (by simp <;> omega)).trans (heap_new_at _ _ _ (by simp))
  have hy0 : (((w.alloc (.cells (bookCells B ta tc sa sc) 30)).alloc (.cells #[i64 d.hour, i64 d.shore, i64 d.deep] 70)).alloc (.cells #[i64 n0, i64 n1, i64 n2] 37)).heap[w.heap.size + 2]? = some (.cells #[i64 n0, i64 n1, i64 n2] 37 (0, 0)) := heap_new_at _ _ _ (by simp)
  have hx0l := (Array.getElem?_eq_some_iff.1 hx0).1
  have hd0l := (Array.getElem?_eq_some_iff.1 hd0).1
  have hy0l := (Array.getElem?_eq_some_iff.1 hy0).1
  have hB0 : BookV w (bookVal B ta tc sa sc) B := ⟨tb, tq, ta, tc, sb, sq, sa, sc, rfl, hT, hS⟩
  have hsl := hS.len
  cases hv : B.valid
  · have hv := Lib.hid hv
    go_enter Tryd.func8, Tryd.ntmps8
    go_wp2_with (refine ld30 rfl _ rfl _ _ rfl hx0 rfl ?_)
    refine (sound_v (hB0.below hb0)).mono ?_
    rintro e w1 ⟨rfl, hb1⟩
    rw [hv.out]
    have ha1 := hb0.trans (hb1.mono hb0.size)
    clear hx0 hd0 hy0 hx0l hd0l hy0l hb1 hb0
    go_wp2_with fail
    refine (moored_any _ (hG.below ha1)).mono ?_
    rintro e w2 ⟨rfl, hb2⟩
    have ha2 := ha1.trans (hb2.mono ha1.size)
    go_wp2_with fail
    go_ret
    exact ⟨rfl, ha2⟩
  · have hV := valid_iff.1 hv
    by_cases h6 : B.sounds.length = 6
    · have hv := Lib.hid hv
      have h6' : (B.sounds.length : Int) = 6 := by omega
      clear h6
      go_enter Tryd.func8, Tryd.ntmps8
      go_wp2_with (refine ld30 rfl _ rfl _ _ rfl hx0 rfl ?_)
      refine (sound_v (hB0.below hb0)).mono ?_
      rintro e w1 ⟨rfl, hb1⟩
      rw [hv.out]
      have ha1 := hb0.trans (hb1.mono hb0.size)
      have hx1 := (hb1.block _ hx0l).trans hx0
      have hxc := cells_of hx1
      have hxl := (Array.getElem?_eq_some_iff.1 hx1).1
      clear hx0 hd0 hy0 hx0l hd0l hy0l hb1 hb0
      go_wp2_with fail
      refine (moored_any _ (hG.below ha1)).mono ?_
      rintro e w2 ⟨rfl, hb2⟩
      have ha2 := ha1.trans (hb2.mono ha1.size)
      go_wp2_with fail
      go_ret
      exact ⟨rfl, ha2⟩
    · have h6' : ¬ (B.sounds.length : Int) = 6 := by omega
      have h1 := hV.h1
      have h24 := hV.h24
      have hs := modI_lt (n := n0) (m := 2) (by decide)
      have hh := modI_lt (n := n1) (m := B.tides.length) (by omega)
      have hl := modI_lt (n := n2) (m := 201) (by decide)
      have q : Qs B (modI n0 2) (modI n1 B.tides.length) (modI n2 201) := ⟨hs.1, by omega, hh.1, hh.2, hl.1, by omega⟩
      have hlaw := more_law (d := d) hv q
      obtain ⟨s, hs'⟩ : ∃ s, modI n0 2 = s := ⟨_, rfl⟩
      obtain ⟨hr, hh'⟩ : ∃ hr, modI n1 B.tides.length = hr := ⟨_, rfl⟩
      obtain ⟨ld, hl'⟩ : ∃ ld, modI n2 201 = ld := ⟨_, rfl⟩
      rw [hs', hh', hl'] at hlaw q
      have hv := Lib.hid hv
      have M0 := fun W => mod_back n0 2 (by decide) W
      have M1 := fun W => mod_back n1 B.tides.length (by omega) W
      have M2 := fun W => mod_back n2 201 (by decide) W
      rw [hs'] at M0
      rw [hh'] at M1
      rw [hl'] at M2
      clear hs hh hl hs' hh' hl'
      go_enter Tryd.func8, Tryd.ntmps8
      go_wp2_with (refine ld30 rfl _ rfl _ _ rfl hx0 rfl ?_)
      refine (sound_v (hB0.below hb0)).mono ?_
      rintro e w1 ⟨rfl, hb1⟩
      rw [hv.out]
      have ha1 := hb0.trans (hb1.mono hb0.size)
      have hx1 := (hb1.block _ hx0l).trans hx0
      have hd1 := (hb1.block _ hd0l).trans hd0
      have hy1 := (hb1.block _ hy0l).trans hy0
      have hxc := cells_of hx1
      have hyc := cells_of hy1
      have hxl := (Array.getElem?_eq_some_iff.1 hx1).1
      have hyl := (Array.getElem?_eq_some_iff.1 hy1).1
      clear hx0 hd0 hy0 hx0l hd0l hy0l
      go_wp2_with fail
      go_quiet ((go_at_call 24; first | with_reducible exact Calls.quiet_of_same (M0 _) | with_reducible exact Calls.quiet_of_same (M1 _) | with_reducible exact Calls.quiet_of_same (M2 _)))
      have hG1 := hG.below ha1
      have hB1 := hB0.below ha1
      refine abs_act (fun W => Below w.heap.size w W ∧ W.heap[w.heap.size]? = some (.cells (bookCells B ta tc sa sc) 30 (0, 0)) ∧ W.heap[w.heap.size + 1]? = some (.cells #[i64 d.hour, i64 d.shore, i64 d.deep] 70 (0, 0)) ∧ GA W ∧ BookV W (bookVal B ta tc sa sc) B) ⟨ha1.trans (drewN_below ha1.size _), hx1, hd1, hG1.below (drewN_below (Nat.le_refl _) _), hB1.below (drewN_below (Nat.le_refl _) _)⟩ ?_
      clear hG1 hB1 ha1 hx1 hd1 hy1 hxc hyc hxl hyl hb1 hb0 M0 M1 M2
      rintro w2 ⟨ha2, hx2, hd2, hG2, hB2⟩
      have hdc2 := cells_of hd2
      have hdl2 := (Array.getElem?_eq_some_iff.1 hd2).1
      go_wp2_with (refine ld30 rfl _ rfl _ _ rfl hx2 rfl ?_)
      refine (with_v hB2 d (by have := hV.s6; omega)).mono ?_
      rintro e w3 ⟨v, rfl, hb3, xb, xq, xa, xc, yb, yq, ya, yc, rfl, hXT, hXS⟩
      have hX3 : BookV w3 (bookVal (addS B d) xa xc ya yc) (addS B d) := ⟨xb, xq, xa, xc, yb, yq, ya, yc, rfl, hXT, hXS⟩
      have hx3 := (hb3.block _ (Array.getElem?_eq_some_iff.1 hx2).1).trans hx2
      have hB3 := hB2.below hb3
      have hG3 := hG2.below hb3
      have ha3 := ha2.trans (hb3.mono ha2.size)
      clear hx2 hB2 hG2 ha2
      clear hb3 hdc2 hdl2 hd2
      obtain ⟨X, hXe⟩ : ∃ X, addS B d = X := ⟨_, rfl⟩
      have hz3 := heap_alloc_new w3 (.cells zero30 30)
      rw [hXe] at hX3 hlaw ⊢
      clear hXe hXT hXS hT hS hB0 hV q hG
      obtain ⟨hb4, hg4⟩ := box30 w3 (bookCells X xa xc ya yc)
      have hx4 := (hb4.block _ (Array.getElem?_eq_some_iff.1 hx3).1).trans hx3
      have hB4 := hB3.below hb4
      have hX4 := hX3.below hb4
      have hG4 := hG3.below hb4
      have ha4 := ha3.trans (hb4.mono ha3.size)
      clear hx3 hB3 hX3 hG3 ha3
      clear hb4
      rcases hlaw with ⟨hc, hh⟩ | ⟨hc, hh⟩ | ⟨a, b, a2, b2, u, v, u2, v2, k, k2, m, e, m2, e2, hh, hh2, hcv, hf, hf2, hcu, hl, hl2, hk, hm, hm2, hme⟩
      · have hc := Lib.hid hc
        have hh := Lib.hid hh
        obtain ⟨a, b, e5, hh5⟩ : ∃ a b e, heightR B hr = (a, b, e) := ⟨_, _, _, rfl⟩
        have hh5 := Lib.hid hh5
        go_wp2_with (first | (refine st30 rfl _ _ rfl _ (bookCells X xa xc ya yc) zero30 rfl rfl hz3 rfl rfl (by simp [Value.oneCell']) ?_) | (refine ld30 rfl _ rfl _ _ rfl hx4 rfl ?_))
        refine (height_v hG4 hB4 hr).mono ?_
        rintro e w5 ⟨rfl, hb5⟩
        rw [hh5.out]
        have hx5 := (hb5.block _ (Array.getElem?_eq_some_iff.1 hx4).1).trans hx4
        have hg5 := (hb5.block _ (Array.getElem?_eq_some_iff.1 hg4).1).trans hg4
        have hB5 := hB4.below hb5
        have hX5 := hX4.below hb5
        have hG5 := hG4.below hb5
        have ha5 := ha4.trans (hb5.mono ha4.size)
        clear hx4 hg4 hB4 hX4 hG4 ha4
        clear hb5
        obtain ⟨hb6, hp6⟩ := box24 w5 a b
        have hx6 := (hb6.block _ (Array.getElem?_eq_some_iff.1 hx5).1).trans hx5
        have hg6 := (hb6.block _ (Array.getElem?_eq_some_iff.1 hg5).1).trans hg5
        have hB6 := hB5.below hb6
        have hX6 := hX5.below hb6
        have hG6 := hG5.below hb6
        have ha6 := ha5.trans (hb6.mono ha5.size)
        clear hx5 hg5 hB5 hX5 hG5 ha5
        clear hb6
        go_wp2_with (refine ld30 rfl _ rfl _ _ rfl hg6 rfl ?_)
        refine (height_v hG6 hX6 hr).mono ?_
        rintro e w7 ⟨rfl, hb7⟩
        rw [hh.out]
        have hx7 := (hb7.block _ (Array.getElem?_eq_some_iff.1 hx6).1).trans hx6
        have hg7 := (hb7.block _ (Array.getElem?_eq_some_iff.1 hg6).1).trans hg6
        have hp7 := (hb7.block _ (Array.getElem?_eq_some_iff.1 hp6).1).trans hp6
        have hB7 := hB6.below hb7
        have hX7 := hX6.below hb7
        have hG7 := hG6.below hb7
        have ha7 := ha6.trans (hb7.mono ha6.size)
        clear hx6 hg6 hp6 hB6 hX6 hG6 ha6
        clear hb7
        obtain ⟨hb8, hq8⟩ := box24 w7 0 0
        have hx8 := (hb8.block _ (Array.getElem?_eq_some_iff.1 hx7).1).trans hx7
        have hg8 := (hb8.block _ (Array.getElem?_eq_some_iff.1 hg7).1).trans hg7
        have hp8 := (hb8.block _ (Array.getElem?_eq_some_iff.1 hp7).1).trans hp7
        have hB8 := hB7.below hb8
        have hX8 := hX7.below hb8
        have hG8 := hG7.below hb8
        have ha8 := ha7.trans (hb8.mono ha7.size)
        clear hx7 hg7 hp7 hB7 hX7 hG7 ha7
        clear hb8
        go_wp2_with (first | (refine ld30 rfl _ rfl _ _ rfl hg8 rfl ?_) | (go_at_call 43; refine (check_v hX8).mono ?_; rintro e w9 ⟨rfl, hb9⟩; rw [hc.out]) | (go_at_call 18; refine (moored_any _ (hG8.below hb9)).mono ?_; rintro e w10 ⟨rfl, hb10⟩))
        go_ret
        exact ⟨rfl, (ha8.trans (hb9.mono ha8.size)).trans (hb10.mono (Nat.le_trans ha8.size hb9.size))⟩
      · have hc := Lib.hid hc
        have hh := Lib.hid hh
        obtain ⟨a, b, e5, hh5⟩ : ∃ a b e, heightR B hr = (a, b, e) := ⟨_, _, _, rfl⟩
        have hh5 := Lib.hid hh5
        go_wp2_with (first | (refine st30 rfl _ _ rfl _ (bookCells X xa xc ya yc) zero30 rfl rfl hz3 rfl rfl (by simp [Value.oneCell']) ?_) | (refine ld30 rfl _ rfl _ _ rfl hx4 rfl ?_))
        refine (height_v hG4 hB4 hr).mono ?_
        rintro e w5 ⟨rfl, hb5⟩
        rw [hh5.out]
        have hx5 := (hb5.block _ (Array.getElem?_eq_some_iff.1 hx4).1).trans hx4
        have hg5 := (hb5.block _ (Array.getElem?_eq_some_iff.1 hg4).1).trans hg4
        have hB5 := hB4.below hb5
        have hX5 := hX4.below hb5
        have hG5 := hG4.below hb5
        have ha5 := ha4.trans (hb5.mono ha4.size)
        clear hx4 hg4 hB4 hX4 hG4 ha4
        clear hb5
        obtain ⟨hb6, hp6⟩ := box24 w5 a b
        have hx6 := (hb6.block _ (Array.getElem?_eq_some_iff.1 hx5).1).trans hx5
        have hg6 := (hb6.block _ (Array.getElem?_eq_some_iff.1 hg5).1).trans hg5
        have hB6 := hB5.below hb6
        have hX6 := hX5.below hb6
        have hG6 := hG5.below hb6
        have ha6 := ha5.trans (hb6.mono ha5.size)
        clear hx5 hg5 hB5 hX5 hG5 ha5
        clear hb6
        go_wp2_with (refine ld30 rfl _ rfl _ _ rfl hg6 rfl ?_)
        refine (height_v hG6 hX6 hr).mono ?_
        rintro e w7 ⟨rfl, hb7⟩
        rw [hh.out]
        have hx7 := (hb7.block _ (Array.getElem?_eq_some_iff.1 hx6).1).trans hx6
        have hg7 := (hb7.block _ (Array.getElem?_eq_some_iff.1 hg6).1).trans hg6
        have hp7 := (hb7.block _ (Array.getElem?_eq_some_iff.1 hp6).1).trans hp6
        have hB7 := hB6.below hb7
        have hX7 := hX6.below hb7
        have hG7 := hG6.below hb7
        have ha7 := ha6.trans (hb7.mono ha6.size)
        clear hx6 hg6 hp6 hB6 hX6 hG6 ha6
        clear hb7
        obtain ⟨hb8, hq8⟩ := box24 w7 0 0
        have hx8 := (hb8.block _ (Array.getElem?_eq_some_iff.1 hx7).1).trans hx7
        have hg8 := (hb8.block _ (Array.getElem?_eq_some_iff.1 hg7).1).trans hg7
        have hp8 := (hb8.block _ (Array.getElem?_eq_some_iff.1 hp7).1).trans hp7
        have hB8 := hB7.below hb8
        have hX8 := hX7.below hb8
        have hG8 := hG7.below hb8
        have ha8 := ha7.trans (hb8.mono ha7.size)
        clear hx7 hg7 hp7 hB7 hX7 hG7 ha7
        clear hb8
        go_wp2_with (first | (refine ld30 rfl _ rfl _ _ rfl hg8 rfl ?_) | (go_at_call 43; refine (check_v hX8).mono ?_; rintro e w9 ⟨rfl, hb9⟩; rw [hc.out]) | (go_at_call 18; refine (moored_any _ (hG8.below hb9)).mono ?_; rintro e w10 ⟨rfl, hb10⟩))
        go_ret
        exact ⟨rfl, (ha8.trans (hb9.mono ha8.size)).trans (hb10.mono (Nat.le_trans ha8.size hb9.size))⟩
      · have hh := Lib.hid hh
        have hh2 := Lib.hid hh2
        have hcv := Lib.hid hcv
        have hf := Lib.hid hf
        have hf2 := Lib.hid hf2
        have hcu := Lib.hid hcu
        have hl := Lib.hid hl
        have hl2 := Lib.hid hl2
        have hm := Lib.hid hm
        have hm2 := Lib.hid hm2
        go_wp2_with (first | (refine st30 rfl _ _ rfl _ (bookCells X xa xc ya yc) zero30 rfl rfl hz3 rfl rfl (by simp [Value.oneCell']) ?_) | (refine ld30 rfl _ rfl _ _ rfl hx4 rfl ?_))
        refine (height_v hG4 hB4 hr).mono ?_
        rintro e w5 ⟨rfl, hb5⟩
        rw [hh.out]
        have hx5 := (hb5.block _ (Array.getElem?_eq_some_iff.1 hx4).1).trans hx4
        have hg5 := (hb5.block _ (Array.getElem?_eq_some_iff.1 hg4).1).trans hg4
        have hB5 := hB4.below hb5
        have hX5 := hX4.below hb5
        have hG5 := hG4.below hb5
        have ha5 := ha4.trans (hb5.mono ha4.size)
        clear hx4 hg4 hB4 hX4 hG4 ha4
        clear hb5
        obtain ⟨hb6, hp6⟩ := box24 w5 a b
        have hx6 := (hb6.block _ (Array.getElem?_eq_some_iff.1 hx5).1).trans hx5
        have hg6 := (hb6.block _ (Array.getElem?_eq_some_iff.1 hg5).1).trans hg5
        have hB6 := hB5.below hb6
        have hX6 := hX5.below hb6
        have hG6 := hG5.below hb6
        have ha6 := ha5.trans (hb6.mono ha5.size)
        clear hx5 hg5 hB5 hX5 hG5 ha5
        clear hb6
        go_wp2_with (refine ld30 rfl _ rfl _ _ rfl hg6 rfl ?_)
        refine (height_v hG6 hX6 hr).mono ?_
        rintro e w7 ⟨rfl, hb7⟩
        rw [hh2.out]
        have hx7 := (hb7.block _ (Array.getElem?_eq_some_iff.1 hx6).1).trans hx6
        have hg7 := (hb7.block _ (Array.getElem?_eq_some_iff.1 hg6).1).trans hg6
        have hp7 := (hb7.block _ (Array.getElem?_eq_some_iff.1 hp6).1).trans hp6
        have hB7 := hB6.below hb7
        have hX7 := hX6.below hb7
        have hG7 := hG6.below hb7
        have ha7 := ha6.trans (hb7.mono ha6.size)
        clear hx6 hg6 hp6 hB6 hX6 hG6 ha6
        clear hb7
        obtain ⟨hb8, hq8⟩ := box24 w7 a2 b2
        have hx8 := (hb8.block _ (Array.getElem?_eq_some_iff.1 hx7).1).trans hx7
        have hg8 := (hb8.block _ (Array.getElem?_eq_some_iff.1 hg7).1).trans hg7
        have hp8 := (hb8.block _ (Array.getElem?_eq_some_iff.1 hp7).1).trans hp7
        have hB8 := hB7.below hb8
        have hX8 := hX7.below hb8
        have hG8 := hG7.below hb8
        have ha8 := ha7.trans (hb8.mono ha7.size)
        clear hx7 hg7 hp7 hB7 hX7 hG7 ha7
        clear hb8
        go_wp2_with (refine ld30 rfl _ rfl _ _ rfl hx8 rfl ?_)
        refine (floor_v hG8 hB8 s).mono ?_
        rintro e w9 ⟨rfl, hb9⟩
        rw [hf.out]
        have hx9 := (hb9.block _ (Array.getElem?_eq_some_iff.1 hx8).1).trans hx8
        have hg9 := (hb9.block _ (Array.getElem?_eq_some_iff.1 hg8).1).trans hg8
        have hp9 := (hb9.block _ (Array.getElem?_eq_some_iff.1 hp8).1).trans hp8
        have hq9 := (hb9.block _ (Array.getElem?_eq_some_iff.1 hq8).1).trans hq8
        have hB9 := hB8.below hb9
        have hX9 := hX8.below hb9
        have hG9 := hG8.below hb9
        have ha9 := ha8.trans (hb9.mono ha8.size)
        clear hx8 hg8 hp8 hq8 hB8 hX8 hG8 ha8
        clear hb9
        obtain ⟨hb10, hu10⟩ := box24 w9 u v
        have hx10 := (hb10.block _ (Array.getElem?_eq_some_iff.1 hx9).1).trans hx9
        have hg10 := (hb10.block _ (Array.getElem?_eq_some_iff.1 hg9).1).trans hg9
        have hp10 := (hb10.block _ (Array.getElem?_eq_some_iff.1 hp9).1).trans hp9
        have hq10 := (hb10.block _ (Array.getElem?_eq_some_iff.1 hq9).1).trans hq9
        have hB10 := hB9.below hb10
        have hX10 := hX9.below hb10
        have hG10 := hG9.below hb10
        have ha10 := ha9.trans (hb10.mono ha9.size)
        clear hx9 hg9 hp9 hq9 hB9 hX9 hG9 ha9
        clear hb10
        go_wp2_with (refine ld30 rfl _ rfl _ _ rfl hg10 rfl ?_)
        refine (floor_v hG10 hX10 s).mono ?_
        rintro e w11 ⟨rfl, hb11⟩
        rw [hf2.out]
        have hx11 := (hb11.block _ (Array.getElem?_eq_some_iff.1 hx10).1).trans hx10
        have hg11 := (hb11.block _ (Array.getElem?_eq_some_iff.1 hg10).1).trans hg10
        have hp11 := (hb11.block _ (Array.getElem?_eq_some_iff.1 hp10).1).trans hp10
        have hq11 := (hb11.block _ (Array.getElem?_eq_some_iff.1 hq10).1).trans hq10
        have hu11 := (hb11.block _ (Array.getElem?_eq_some_iff.1 hu10).1).trans hu10
        have hB11 := hB10.below hb11
        have hX11 := hX10.below hb11
        have hG11 := hG10.below hb11
        have ha11 := ha10.trans (hb11.mono ha10.size)
        clear hx10 hg10 hp10 hq10 hu10 hB10 hX10 hG10 ha10
        clear hb11
        obtain ⟨hb12, ho12⟩ := box24 w11 u2 v2
        have hx12 := (hb12.block _ (Array.getElem?_eq_some_iff.1 hx11).1).trans hx11
        have hg12 := (hb12.block _ (Array.getElem?_eq_some_iff.1 hg11).1).trans hg11
        have hp12 := (hb12.block _ (Array.getElem?_eq_some_iff.1 hp11).1).trans hp11
        have hq12 := (hb12.block _ (Array.getElem?_eq_some_iff.1 hq11).1).trans hq11
        have hu12 := (hb12.block _ (Array.getElem?_eq_some_iff.1 hu11).1).trans hu11
        have hB12 := hB11.below hb12
        have hX12 := hX11.below hb12
        have hG12 := hG11.below hb12
        have ha12 := ha11.trans (hb12.mono ha11.size)
        clear hx11 hg11 hp11 hq11 hu11 hB11 hX11 hG11 ha11
        clear hb12
        go_wp2_with (refine ld30 rfl _ rfl _ _ rfl hx12 rfl ?_)
        refine (lands_v hG12 hB12 s hr ld).mono ?_
        rintro e w13 ⟨rfl, hb13⟩
        rw [hl.out]
        have hx13 := (hb13.block _ (Array.getElem?_eq_some_iff.1 hx12).1).trans hx12
        have hg13 := (hb13.block _ (Array.getElem?_eq_some_iff.1 hg12).1).trans hg12
        have hp13 := (hb13.block _ (Array.getElem?_eq_some_iff.1 hp12).1).trans hp12
        have hq13 := (hb13.block _ (Array.getElem?_eq_some_iff.1 hq12).1).trans hq12
        have hu13 := (hb13.block _ (Array.getElem?_eq_some_iff.1 hu12).1).trans hu12
        have ho13 := (hb13.block _ (Array.getElem?_eq_some_iff.1 ho12).1).trans ho12
        have hB13 := hB12.below hb13
        have hX13 := hX12.below hb13
        have hG13 := hG12.below hb13
        have ha13 := ha12.trans (hb13.mono ha12.size)
        clear hx12 hg12 hp12 hq12 hu12 ho12 hB12 hX12 hG12 ha12
        clear hb13
        go_wp2_with (refine ld30 rfl _ rfl _ _ rfl hg13 rfl ?_)
        refine (lands_v hG13 hX13 s hr ld).mono ?_
        rintro e w14 ⟨rfl, hb14⟩
        rw [hl2.out]
        have hx14 := (hb14.block _ (Array.getElem?_eq_some_iff.1 hx13).1).trans hx13
        have hg14 := (hb14.block _ (Array.getElem?_eq_some_iff.1 hg13).1).trans hg13
        have hp14 := (hb14.block _ (Array.getElem?_eq_some_iff.1 hp13).1).trans hp13
        have hq14 := (hb14.block _ (Array.getElem?_eq_some_iff.1 hq13).1).trans hq13
        have hu14 := (hb14.block _ (Array.getElem?_eq_some_iff.1 hu13).1).trans hu13
        have ho14 := (hb14.block _ (Array.getElem?_eq_some_iff.1 ho13).1).trans ho13
        have hB14 := hB13.below hb14
        have hX14 := hX13.below hb14
        have hG14 := hG13.below hb14
        have ha14 := ha13.trans (hb14.mono ha13.size)
        clear hx13 hg13 hp13 hq13 hu13 ho13 hB13 hX13 hG13 ha13
        clear hb14
        go_wp2_with (refine ld30 rfl _ rfl _ _ rfl hx14 rfl ?_)
        refine (most_v hG14 hB14 s hr).mono ?_
        rintro e w15 ⟨rfl, hb15⟩
        rw [hm.out]
        have hx15 := (hb15.block _ (Array.getElem?_eq_some_iff.1 hx14).1).trans hx14
        have hg15 := (hb15.block _ (Array.getElem?_eq_some_iff.1 hg14).1).trans hg14
        have hp15 := (hb15.block _ (Array.getElem?_eq_some_iff.1 hp14).1).trans hp14
        have hq15 := (hb15.block _ (Array.getElem?_eq_some_iff.1 hq14).1).trans hq14
        have hu15 := (hb15.block _ (Array.getElem?_eq_some_iff.1 hu14).1).trans hu14
        have ho15 := (hb15.block _ (Array.getElem?_eq_some_iff.1 ho14).1).trans ho14
        have hB15 := hB14.below hb15
        have hX15 := hX14.below hb15
        have hG15 := hG14.below hb15
        have ha15 := ha14.trans (hb15.mono ha14.size)
        clear hx14 hg14 hp14 hq14 hu14 ho14 hB14 hX14 hG14 ha14
        clear hb15
        go_wp2_with (refine ld30 rfl _ rfl _ _ rfl hg15 rfl ?_)
        refine (most_v hG15 hX15 s hr).mono ?_
        rintro e w16 ⟨rfl, hb16⟩
        rw [hm2.out]
        have hx16 := (hb16.block _ (Array.getElem?_eq_some_iff.1 hx15).1).trans hx15
        have hg16 := (hb16.block _ (Array.getElem?_eq_some_iff.1 hg15).1).trans hg15
        have hp16 := (hb16.block _ (Array.getElem?_eq_some_iff.1 hp15).1).trans hp15
        have hq16 := (hb16.block _ (Array.getElem?_eq_some_iff.1 hq15).1).trans hq15
        have hu16 := (hb16.block _ (Array.getElem?_eq_some_iff.1 hu15).1).trans hu15
        have ho16 := (hb16.block _ (Array.getElem?_eq_some_iff.1 ho15).1).trans ho15
        have hB16 := hB15.below hb16
        have hX16 := hX15.below hb16
        have hG16 := hG15.below hb16
        have ha16 := ha15.trans (hb16.mono ha15.size)
        clear hx15 hg15 hp15 hq15 hu15 ho15 hB15 hX15 hG15 ha15
        clear hb16
        have hpc := cells_of hp16
        have hpl := (Array.getElem?_eq_some_iff.1 hp16).1
        have hqc := cells_of hq16
        have hql := (Array.getElem?_eq_some_iff.1 hq16).1
        have huc := cells_of hu16
        have hul := (Array.getElem?_eq_some_iff.1 hu16).1
        have hoc := cells_of ho16
        have hol := (Array.getElem?_eq_some_iff.1 ho16).1
        rcases hme with rfl | ⟨rfl, rfl, hmm⟩
        · rcases (by omega : k = 1 ∨ (¬ k = 1 ∧ k2 = k)) with rfl | ⟨hk1, rfl⟩
          · go_wp2_with (first | (go_at_call 38; (with_reducible refine (covers_any a b a2 b2 _).mono ?_); rintro e w17 ⟨rfl, hb17⟩; rw [hcv.out]; have hu17 := (hb17.block _ hul).trans hu16; have ho17 := (hb17.block _ hol).trans ho16; have huc17 := cells_of hu17; have hoc17 := cells_of ho17; have hul17 := (Array.getElem?_eq_some_iff.1 hu17).1; have hol17 := (Array.getElem?_eq_some_iff.1 ho17).1; have ha17 := ha16.trans (hb17.mono ha16.size); have hG17 := hG16.below hb17) | (go_at_call 38; (with_reducible refine (covers_any u v u2 v2 _).mono ?_); rintro e w18 ⟨rfl, hb18⟩; rw [hcu.out]; have ha18 := ha17.trans (hb18.mono ha17.size); have hG18 := hG17.below hb18) | (go_at_call 18; refine (moored_any _ hG18).mono ?_; rintro e w19 ⟨rfl, hb19⟩))
            go_ret
            exact ⟨rfl, ha18.trans (hb19.mono ha18.size)⟩
          · go_wp2_with (first | (go_at_call 38; (with_reducible refine (covers_any a b a2 b2 _).mono ?_); rintro e w17 ⟨rfl, hb17⟩; rw [hcv.out]; have hu17 := (hb17.block _ hul).trans hu16; have ho17 := (hb17.block _ hol).trans ho16; have huc17 := cells_of hu17; have hoc17 := cells_of ho17; have hul17 := (Array.getElem?_eq_some_iff.1 hu17).1; have hol17 := (Array.getElem?_eq_some_iff.1 ho17).1; have ha17 := ha16.trans (hb17.mono ha16.size); have hG17 := hG16.below hb17) | (go_at_call 38; (with_reducible refine (covers_any u v u2 v2 _).mono ?_); rintro e w18 ⟨rfl, hb18⟩; rw [hcu.out]; have ha18 := ha17.trans (hb18.mono ha17.size); have hG18 := hG17.below hb18) | (go_at_call 18; refine (moored_any _ hG18).mono ?_; rintro e w19 ⟨rfl, hb19⟩))
            go_ret
            exact ⟨rfl, ha18.trans (hb19.mono ha18.size)⟩
        · rcases (by omega : k = 1 ∨ (¬ k = 1 ∧ k2 = k)) with rfl | ⟨hk1, rfl⟩
          · go_wp2_with (first | (go_at_call 38; (with_reducible refine (covers_any a b a2 b2 _).mono ?_); rintro e w17 ⟨rfl, hb17⟩; rw [hcv.out]; have hu17 := (hb17.block _ hul).trans hu16; have ho17 := (hb17.block _ hol).trans ho16; have huc17 := cells_of hu17; have hoc17 := cells_of ho17; have hul17 := (Array.getElem?_eq_some_iff.1 hu17).1; have hol17 := (Array.getElem?_eq_some_iff.1 ho17).1; have ha17 := ha16.trans (hb17.mono ha16.size); have hG17 := hG16.below hb17) | (go_at_call 38; (with_reducible refine (covers_any u v u2 v2 _).mono ?_); rintro e w18 ⟨rfl, hb18⟩; rw [hcu.out]; have ha18 := ha17.trans (hb18.mono ha17.size); have hG18 := hG17.below hb18) | (go_at_call 18; refine (moored_any _ hG18).mono ?_; rintro e w19 ⟨rfl, hb19⟩))
            go_ret
            exact ⟨rfl, ha18.trans (hb19.mono ha18.size)⟩
          · go_wp2_with (first | (go_at_call 38; (with_reducible refine (covers_any a b a2 b2 _).mono ?_); rintro e w17 ⟨rfl, hb17⟩; rw [hcv.out]; have hu17 := (hb17.block _ hul).trans hu16; have ho17 := (hb17.block _ hol).trans ho16; have huc17 := cells_of hu17; have hoc17 := cells_of ho17; have hul17 := (Array.getElem?_eq_some_iff.1 hu17).1; have hol17 := (Array.getElem?_eq_some_iff.1 ho17).1; have ha17 := ha16.trans (hb17.mono ha16.size); have hG17 := hG16.below hb17) | (go_at_call 38; (with_reducible refine (covers_any u v u2 v2 _).mono ?_); rintro e w18 ⟨rfl, hb18⟩; rw [hcu.out]; have ha18 := ha17.trans (hb18.mono ha17.size); have hG18 := hG17.below hb18) | (go_at_call 18; refine (moored_any _ hG18).mono ?_; rintro e w19 ⟨rfl, hb19⟩))
            go_ret
            exact ⟨rfl, ha18.trans (hb19.mono ha18.size)⟩
theorem LMore_v {B : Book} {v : Value} {w : World} (hG : GA w) (hB : BookV w v B) (a b c : Int) (n0 n1 n2 : Int) : Calls Tryd.prog 8 #[v, .agg #[i64 a, i64 b, i64 c], .agg #[i64 n0, i64 n1, i64 n2]] w (MoorPost w) := by
  obtain ⟨tb, tq, ta, tc, sb, sq, sa, sc, rfl, hT, hS⟩ := hB
  exact LMore_any B ⟨a, b, c⟩ tb tq ta tc sb sq sa sc n0 n1 n2 w hG hT hS
end Go.Proofs.YtkbmpkdflgimmaaDoor
