/- LandingFirst answers true of every book and of all numbers. -/
import Derived.Test.YtkbmpkdflgimmaaDoorPure4
namespace Go.Proofs.YtkbmpkdflgimmaaDoor
open Go.RowKit Go.Shelf

set_option maxRecDepth 100000 in
set_option maxHeartbeats 8000000 in
theorem LFirst_any (B : Book) (tb tq : Nat) (ta : Option Addr) (tc : Nat) (sb sq : Nat) (sa : Option Addr) (sc : Nat) (n0 n1 n2 : Int) (w : World) (hG : GA w) (hT : SpansAt w.heap.size w tb tq ta B.tides) (hS : SoundsAt w.heap.size w sb sq sa B.sounds) :
    Calls Tryd.prog 10 #[bookVal B ta tc sa sc, .agg #[i64 n0, i64 n1, i64 n2]] w (MoorPost w) := by
  have hb0 : Below w.heap.size w ((w.alloc (.cells (bookCells B ta tc sa sc) 30)).alloc (.cells #[i64 n0, i64 n1, i64 n2] 37)) := ((Below.refl _ w).alloc (Nat.le_refl _) _).alloc (by simp) _
  have hx0 : ((w.alloc (.cells (bookCells B ta tc sa sc) 30)).alloc (.cells #[i64 n0, i64 n1, i64 n2] 37)).heap[w.heap.size]? = some (.cells (bookCells B ta tc sa sc) 30 (0, 0)) := (Below.heap_alloc _ _ _ (by simp)).trans (heap_alloc_new w _)
  have hy0 : ((w.alloc (.cells (bookCells B ta tc sa sc) 30)).alloc (.cells #[i64 n0, i64 n1, i64 n2] 37)).heap[w.heap.size + 1]? = some (.cells #[i64 n0, i64 n1, i64 n2] 37 (0, 0)) := heap_alloc2_new w _ _
  have hx0l := (Array.getElem?_eq_some_iff.1 hx0).1
  have hy0l := (Array.getElem?_eq_some_iff.1 hy0).1
  have hB0 : BookV w (bookVal B ta tc sa sc) B := ⟨tb, tq, ta, tc, sb, sq, sa, sc, rfl, hT, hS⟩
  cases hv : B.valid
  · have hv := Lib.hid hv
    go_enter Tryd.func10, Tryd.ntmps10
    go_wp2_with (first | (refine ld30 rfl _ rfl _ _ rfl hx0 rfl ?_) | (go_at_call 21; refine (sound_v (hB0.below hb0)).mono ?_; rintro e w1 ⟨rfl, hb1⟩; rw [hv.out]; have ha1 := hb0.trans (hb1.mono hb0.size)) | (go_at_call 18; refine (moored_any _ (hG.below ha1)).mono ?_; rintro e w2 ⟨rfl, hb2⟩; have ha2 := ha1.trans (hb2.mono ha1.size)))
    go_ret
    exact ⟨rfl, ha2⟩
  · have hV := valid_iff.1 hv
    have h1 := hV.h1
    have h24 := hV.h24
    have hs := modI_lt (n := n0) (m := 2) (by decide)
    have hh := modI_lt (n := n1) (m := B.tides.length) (by omega)
    have hl := modI_lt (n := n2) (m := 201) (by decide)
    have q : Qs B (modI n0 2) (modI n1 B.tides.length) (modI n2 201) := ⟨hs.1, by omega, hh.1, hh.2, hl.1, by omega⟩
    have hlaw := first_law hv q
    obtain ⟨s, hs'⟩ : ∃ s, modI n0 2 = s := ⟨_, rfl⟩
    obtain ⟨hr, hh'⟩ : ∃ hr, modI n1 B.tides.length = hr := ⟨_, rfl⟩
    obtain ⟨ld, hl'⟩ : ∃ ld, modI n2 201 = ld := ⟨_, rfl⟩
    rw [hs', hh', hl'] at hlaw q
    have hv := Lib.hid hv
    have M0 := fun W => mod_back n0 2 (by decide) W
    have M1 := fun W => mod_back n1 B.tides.length (by omega) W
    have M2 := fun W => mod_back n2 201 (by decide) W
    rw [hs'] at M0
    rw [hh'] at M1
    rw [hl'] at M2
    clear hs hh hl hs' hh' hl'
    go_enter Tryd.func10, Tryd.ntmps10
    go_wp2_with (first | (refine ld30 rfl _ rfl _ _ rfl hx0 rfl ?_) | (go_at_call 21; refine (sound_v (hB0.below hb0)).mono ?_; rintro e w1 ⟨rfl, hb1⟩; rw [hv.out]; have ha1 := hb0.trans (hb1.mono hb0.size); have hx1 := (hb1.block _ hx0l).trans hx0; have hy1 := (hb1.block _ hy0l).trans hy0; have hxc := cells_of hx1; have hyc := cells_of hy1; have hxl := (Array.getElem?_eq_some_iff.1 hx1).1; have hyl := (Array.getElem?_eq_some_iff.1 hy1).1))
    go_quiet ((go_at_call 24; first | with_reducible exact Calls.quiet_of_same (M0 _) | with_reducible exact Calls.quiet_of_same (M1 _) | with_reducible exact Calls.quiet_of_same (M2 _)))
    have hG1 := hG.below ha1
    have hB1 := hB0.below ha1
    refine abs_act (fun W => Below w.heap.size w W ∧ W.heap[w.heap.size]? = some (.cells (bookCells B ta tc sa sc) 30 (0, 0)) ∧ GA W ∧ BookV W (bookVal B ta tc sa sc) B) ⟨ha1.trans (drewN_below ha1.size _), hx1, hG1.below (drewN_below (Nat.le_refl _) _), hB1.below (drewN_below (Nat.le_refl _) _)⟩ ?_
    clear hG1 hB1 ha1 hx1 hy1 hxc hyc hxl hyl hb1 hx0 hy0 hx0l hy0l hb0 M0 M1 M2
    rintro w2 ⟨ha2, hx2, hG2, hB2⟩
    rcases hlaw with ⟨hf, hb⟩ | ⟨L, k0, k1, hb, hris, hl0, hl1, hix, ⟨hk0, hk1⟩, hcase⟩
    · have hf := Lib.hid hf
      have hb := Lib.hid hb
      go_wp2_with (refine ld30 rfl _ rfl _ _ rfl hx2 rfl ?_)
      refine (first_v hG2 hB2 s ld).mono ?_
      rintro e w3 ⟨rfl, hb3⟩
      rw [hf.out]
      have hx3 := (hb3.block _ (Array.getElem?_eq_some_iff.1 hx2).1).trans hx2
      have hG3 := hG2.below hb3
      have hB3 := hB2.below hb3
      have ha3 := ha2.trans (hb3.mono ha2.size)
      clear hb3 hx2 hG2 hB2 ha2
      go_wp2_with (refine ld30 rfl _ rfl _ _ rfl hx3 rfl ?_)
      refine (both_v hG3 hB3 ld).mono ?_
      rintro e w4 ⟨v4, rfl, hb4, hL4⟩
      have hx4 := (hb4.block _ (Array.getElem?_eq_some_iff.1 hx3).1).trans hx3
      have hG4 := hG3.below hb4
      have hB4 := hB3.below hb4
      have ha4 := ha3.trans (hb4.mono ha3.size)
      rw [hb.out] at hL4 ⊢
      obtain ⟨b4, o4, a4, c4, rfl, _, _⟩ := hL4
      clear hb4 hx3 hG3 hB3 ha3
      go_wp2_with (go_at_call 18; refine (moored_any _ hG4).mono ?_; rintro e w5 ⟨rfl, hb5⟩)
      go_ret
      exact ⟨rfl, ha4.trans (hb5.mono ha4.size)⟩
    · obtain ⟨m, e, hfe⟩ : ∃ m e, firstR B s ld = (m, e) := ⟨_, _, rfl⟩
      rw [hfe] at hcase
      have hfe := Lib.hid hfe
      have hb := Lib.hid hb
      have hl0 := Lib.hid hl0
      have hl1 := Lib.hid hl1
      have hss : s = 0 ∨ s = 1 := by have := q.s0; have := q.s1; omega
      go_wp2_with (refine ld30 rfl _ rfl _ _ rfl hx2 rfl ?_)
      refine (first_v hG2 hB2 s ld).mono ?_
      rintro e w3 ⟨rfl, hb3⟩
      rw [hfe.out]
      have hx3 := (hb3.block _ (Array.getElem?_eq_some_iff.1 hx2).1).trans hx2
      have hG3 := hG2.below hb3
      have hB3 := hB2.below hb3
      have ha3 := ha2.trans (hb3.mono ha2.size)
      clear hb3 hx2 hG2 hB2 ha2
      go_wp2_with (refine ld30 rfl _ rfl _ _ rfl hx3 rfl ?_)
      refine (both_v hG3 hB3 ld).mono ?_
      rintro e w4 ⟨v4, rfl, hb4, hL4⟩
      have hx4 := (hb4.block _ (Array.getElem?_eq_some_iff.1 hx3).1).trans hx3
      have hG4 := hG3.below hb4
      have hB4 := hB3.below hb4
      have ha4 := ha3.trans (hb4.mono ha3.size)
      rw [hb.out] at hL4 ⊢
      clear hb4 hx3 hG3 hB3 ha3
      go_wp2_with (refine ld30 rfl _ rfl _ _ rfl hx4 rfl ?_)
      refine (lands_v hG4 hB4 0 hr ld).mono ?_
      rintro e w5 ⟨rfl, hb5⟩
      rw [hl0.out]
      have hx5 := (hb5.block _ (Array.getElem?_eq_some_iff.1 hx4).1).trans hx4
      have hG5 := hG4.below hb5
      have hB5 := hB4.below hb5
      have ha5 := ha4.trans (hb5.mono ha4.size)
      have hL5 := hL4.below hb5
      clear hb5 hx4 hG4 hB4 ha4
      go_wp2_with (refine ld30 rfl _ rfl _ _ rfl hx5 rfl ?_)
      refine (lands_v hG5 hB5 1 hr ld).mono ?_
      rintro e w6 ⟨rfl, hb6⟩
      rw [hl1.out]
      have hx6 := (hb6.block _ (Array.getElem?_eq_some_iff.1 hx5).1).trans hx5
      have hG6 := hG5.below hb6
      have hB6 := hB5.below hb6
      have ha6 := ha5.trans (hb6.mono ha5.size)
      have hL6 := hL5.below hb6
      clear hb6 hx5 hG5 hB5 ha5
      clear hL4 hL5
      have hxc6 := cells_of hx6
      have hxl6 := (Array.getElem?_eq_some_iff.1 hx6).1
      obtain ⟨b6, o6, a6, c6, rfl, hlc6, hI6⟩ := hL6
      have hL6 : ListV w6 (.slice a6 L.length c6) L := ⟨b6, o6, a6, c6, rfl, hlc6, hI6⟩
      have hLl := hI6.len
      have hqh := q.h0
      have hi0 : ∀ x L', L = x :: L' → ∀ W, (Instr.indexAt 40 (.slice a6 (L'.length + 1) c6) (.int .i64 0)).run Tryd.prog W = .ok (.pointer (some ⟨b6, o6, none⟩)) W := fun x L' e W => by
        subst e
        have := idx40 (n := L'.length + 1) (c := c6) (k := 0) W (hI6.at_ (by simp)) (by omega)
        simpa using this
      have hc0 : ∀ x L', L = x :: L' → w6.cell? ⟨b6, o6, none⟩ = some (i64 x) := fun x L' e => by
        subst e
        have := hI6.cell 0 (by simp)
        simpa using this
      have hb6lt : ∀ x L', L = x :: L' → b6 < w6.heap.size := fun x L' e => hI6.lt (by rw [e]; simp)
      have hi0 := Lib.hid hi0
      have hc0 := Lib.hid hc0
      clear hI6 hlc6
      rcases hss with rfl | rfl
      · rcases (by omega : (k0 = 2 ∧ k1 = 2) ∨ (k0 = 2 ∧ k1 < 2) ∨ (k0 < 2 ∧ k1 = 2) ∨ (k0 < 2 ∧ k1 < 2)) with ⟨rfl, rfl⟩ | ⟨rfl, hk1'⟩ | ⟨hk0', rfl⟩ | ⟨hk0', hk1'⟩
        · have hi : 0 ≤ idxI L hr := hix.2 ⟨rfl, rfl⟩
          clear hix
          have hid : decide (0 ≤ idxI L hr) = true := by simp [hi]
          rcases hcase with ⟨he, c0, c1, rfl⟩ | ⟨m', he, hlm, c0, c1, hall⟩
          · have := c0 rfl
            omega
          · obtain ⟨rfl, rfl⟩ : m = m' ∧ e = 0 := by simpa using he
            have hlm := Lib.hid hlm
            have hmr : m ≤ hr := by have := c0 rfl; omega
            clear he c0 c1
            cases L with
            | nil =>
              simp [idxI] at hi
            | cons x L' =>
              have hx := hall x (List.mem_cons_self ..)
              have hix0 := hi0.out x L' rfl
              have hcx := hc0.out x L' rfl
              have hblt := hb6lt x L' rfl
              clear hall hi0 hc0 hb6lt
              go_wp2_with (first | (refine ld30 rfl _ rfl _ _ rfl hx7 rfl ?_) | (go_at_call 36; refine (climbs_v hL6 hris (by omega)).mono ?_; rintro e w7 ⟨rfl, hb7⟩; have hx7 := (hb7.block _ hxl6).trans hx6; have hG7 := hG6.below hb7; have hB7 := hB6.below hb7; have ha7 := ha6.trans (hb7.mono ha6.size)) | (go_at_call 44; refine (at_v (hL6.below hb7) hr).mono ?_; rintro e w8 ⟨rfl, rfl⟩) | (go_at_call 29; refine (lands_v hG7 hB7 0 m ld).mono ?_; rintro e w10 ⟨rfl, hb10⟩; rw [hlm.out]; have hG10 := hG7.below hb10; have ha10 := ha7.trans (hb10.mono ha7.size); have hcx7 := (hb7.cell (p := ⟨b6, o6, none⟩) hblt).trans hcx; have hcx10 := (hb10.cell (p := ⟨b6, o6, none⟩) (Nat.lt_of_lt_of_le hblt hb7.size)).trans hcx7) | (go_at_call 18; refine (moored_any _ hG10).mono ?_; rintro e w9 ⟨rfl, hb9⟩))
              go_ret
              exact ⟨rfl, ha10.trans (hb9.mono ha10.size)⟩
        · have hi : ¬ 0 ≤ idxI L hr := fun h => by have := hix.1 h; omega
          clear hix
          have hid : decide (0 ≤ idxI L hr) = false := by simp [hi]
          have hkb : (k1 == 2) = false := by simp; omega
          rcases hcase with ⟨he, c0, c1, rfl⟩ | ⟨m', he, hlm, c0, c1, hall⟩
          · have := c0 rfl
            omega
          · obtain ⟨rfl, rfl⟩ : m = m' ∧ e = 0 := by simpa using he
            have hlm := Lib.hid hlm
            have hmr : m ≤ hr := by have := c0 rfl; omega
            clear he c0 c1
            cases L with
            | nil =>
              clear hall
              go_wp2_with (first | (refine ld30 rfl _ rfl _ _ rfl hx7 rfl ?_) | (go_at_call 36; refine (climbs_v hL6 hris (by omega)).mono ?_; rintro e w7 ⟨rfl, hb7⟩; have hx7 := (hb7.block _ hxl6).trans hx6; have hG7 := hG6.below hb7; have hB7 := hB6.below hb7; have ha7 := ha6.trans (hb7.mono ha6.size)) | (go_at_call 44; refine (at_v (hL6.below hb7) hr).mono ?_; rintro e w8 ⟨rfl, rfl⟩) | (go_at_call 29; refine (lands_v hG7 hB7 0 m ld).mono ?_; rintro e w10 ⟨rfl, hb10⟩; rw [hlm.out]; have hG10 := hG7.below hb10; have ha10 := ha7.trans (hb10.mono ha7.size)) | (go_at_call 18; refine (moored_any _ hG10).mono ?_; rintro e w9 ⟨rfl, hb9⟩))
              go_ret
              exact ⟨rfl, ha10.trans (hb9.mono ha10.size)⟩
            | cons x L' =>
              have hx := hall x (List.mem_cons_self ..)
              have hix0 := hi0.out x L' rfl
              have hcx := hc0.out x L' rfl
              have hblt := hb6lt x L' rfl
              clear hall hi0 hc0 hb6lt
              go_wp2_with (first | (refine ld30 rfl _ rfl _ _ rfl hx7 rfl ?_) | (go_at_call 36; refine (climbs_v hL6 hris (by omega)).mono ?_; rintro e w7 ⟨rfl, hb7⟩; have hx7 := (hb7.block _ hxl6).trans hx6; have hG7 := hG6.below hb7; have hB7 := hB6.below hb7; have ha7 := ha6.trans (hb7.mono ha6.size)) | (go_at_call 44; refine (at_v (hL6.below hb7) hr).mono ?_; rintro e w8 ⟨rfl, rfl⟩) | (go_at_call 29; refine (lands_v hG7 hB7 0 m ld).mono ?_; rintro e w10 ⟨rfl, hb10⟩; rw [hlm.out]; have hG10 := hG7.below hb10; have ha10 := ha7.trans (hb10.mono ha7.size); have hcx7 := (hb7.cell (p := ⟨b6, o6, none⟩) hblt).trans hcx; have hcx10 := (hb10.cell (p := ⟨b6, o6, none⟩) (Nat.lt_of_lt_of_le hblt hb7.size)).trans hcx7) | (go_at_call 18; refine (moored_any _ hG10).mono ?_; rintro e w9 ⟨rfl, hb9⟩))
              go_ret
              exact ⟨rfl, ha10.trans (hb9.mono ha10.size)⟩
        · have hi : ¬ 0 ≤ idxI L hr := fun h => by have := hix.1 h; omega
          clear hix
          have hid : decide (0 ≤ idxI L hr) = false := by simp [hi]
          have hka : (k0 == 2) = false := by simp; omega
          rcases hcase with ⟨he, c0, c1, rfl⟩ | ⟨m', he, hlm, c0, c1, hall⟩
          · obtain ⟨rfl, rfl⟩ : m = 0 ∧ e = 4 := by simpa using he
            clear he c0 c1
            go_wp2_with (first | (refine ld30 rfl _ rfl _ _ rfl hx7 rfl ?_) | (go_at_call 36; refine (climbs_v hL6 hris (by omega)).mono ?_; rintro e w7 ⟨rfl, hb7⟩; have hx7 := (hb7.block _ hxl6).trans hx6; have hG7 := hG6.below hb7; have hB7 := hB6.below hb7; have ha7 := ha6.trans (hb7.mono ha6.size)) | (go_at_call 44; refine (at_v (hL6.below hb7) hr).mono ?_; rintro e w8 ⟨rfl, rfl⟩) | (go_at_call 18; refine (moored_any _ hG7).mono ?_; rintro e w9 ⟨rfl, hb9⟩))
            go_ret
            exact ⟨rfl, ha7.trans (hb9.mono ha7.size)⟩
          · obtain ⟨rfl, rfl⟩ : m = m' ∧ e = 0 := by simpa using he
            have hlm := Lib.hid hlm
            clear he c0 c1
            cases L with
            | nil =>
              clear hall
              go_wp2_with (first | (refine ld30 rfl _ rfl _ _ rfl hx7 rfl ?_) | (go_at_call 36; refine (climbs_v hL6 hris (by omega)).mono ?_; rintro e w7 ⟨rfl, hb7⟩; have hx7 := (hb7.block _ hxl6).trans hx6; have hG7 := hG6.below hb7; have hB7 := hB6.below hb7; have ha7 := ha6.trans (hb7.mono ha6.size)) | (go_at_call 44; refine (at_v (hL6.below hb7) hr).mono ?_; rintro e w8 ⟨rfl, rfl⟩) | (go_at_call 29; refine (lands_v hG7 hB7 0 m ld).mono ?_; rintro e w10 ⟨rfl, hb10⟩; rw [hlm.out]; have hG10 := hG7.below hb10; have ha10 := ha7.trans (hb10.mono ha7.size)) | (go_at_call 18; refine (moored_any _ hG10).mono ?_; rintro e w9 ⟨rfl, hb9⟩))
              go_ret
              exact ⟨rfl, ha10.trans (hb9.mono ha10.size)⟩
            | cons x L' =>
              have hx := hall x (List.mem_cons_self ..)
              have hix0 := hi0.out x L' rfl
              have hcx := hc0.out x L' rfl
              have hblt := hb6lt x L' rfl
              clear hall hi0 hc0 hb6lt
              go_wp2_with (first | (refine ld30 rfl _ rfl _ _ rfl hx7 rfl ?_) | (go_at_call 36; refine (climbs_v hL6 hris (by omega)).mono ?_; rintro e w7 ⟨rfl, hb7⟩; have hx7 := (hb7.block _ hxl6).trans hx6; have hG7 := hG6.below hb7; have hB7 := hB6.below hb7; have ha7 := ha6.trans (hb7.mono ha6.size)) | (go_at_call 44; refine (at_v (hL6.below hb7) hr).mono ?_; rintro e w8 ⟨rfl, rfl⟩) | (go_at_call 29; refine (lands_v hG7 hB7 0 m ld).mono ?_; rintro e w10 ⟨rfl, hb10⟩; rw [hlm.out]; have hG10 := hG7.below hb10; have ha10 := ha7.trans (hb10.mono ha7.size); have hcx7 := (hb7.cell (p := ⟨b6, o6, none⟩) hblt).trans hcx; have hcx10 := (hb10.cell (p := ⟨b6, o6, none⟩) (Nat.lt_of_lt_of_le hblt hb7.size)).trans hcx7) | (go_at_call 18; refine (moored_any _ hG10).mono ?_; rintro e w9 ⟨rfl, hb9⟩))
              go_ret
              exact ⟨rfl, ha10.trans (hb9.mono ha10.size)⟩
        · have hi : ¬ 0 ≤ idxI L hr := fun h => by have := hix.1 h; omega
          clear hix
          have hid : decide (0 ≤ idxI L hr) = false := by simp [hi]
          have hkb : (k1 == 2) = false := by simp; omega
          have hka : (k0 == 2) = false := by simp; omega
          rcases hcase with ⟨he, c0, c1, rfl⟩ | ⟨m', he, hlm, c0, c1, hall⟩
          · obtain ⟨rfl, rfl⟩ : m = 0 ∧ e = 4 := by simpa using he
            clear he c0 c1
            go_wp2_with (first | (refine ld30 rfl _ rfl _ _ rfl hx7 rfl ?_) | (go_at_call 36; refine (climbs_v hL6 hris (by omega)).mono ?_; rintro e w7 ⟨rfl, hb7⟩; have hx7 := (hb7.block _ hxl6).trans hx6; have hG7 := hG6.below hb7; have hB7 := hB6.below hb7; have ha7 := ha6.trans (hb7.mono ha6.size)) | (go_at_call 44; refine (at_v (hL6.below hb7) hr).mono ?_; rintro e w8 ⟨rfl, rfl⟩) | (go_at_call 18; refine (moored_any _ hG7).mono ?_; rintro e w9 ⟨rfl, hb9⟩))
            go_ret
            exact ⟨rfl, ha7.trans (hb9.mono ha7.size)⟩
          · obtain ⟨rfl, rfl⟩ : m = m' ∧ e = 0 := by simpa using he
            have hlm := Lib.hid hlm
            clear he c0 c1
            cases L with
            | nil =>
              clear hall
              go_wp2_with (first | (refine ld30 rfl _ rfl _ _ rfl hx7 rfl ?_) | (go_at_call 36; refine (climbs_v hL6 hris (by omega)).mono ?_; rintro e w7 ⟨rfl, hb7⟩; have hx7 := (hb7.block _ hxl6).trans hx6; have hG7 := hG6.below hb7; have hB7 := hB6.below hb7; have ha7 := ha6.trans (hb7.mono ha6.size)) | (go_at_call 44; refine (at_v (hL6.below hb7) hr).mono ?_; rintro e w8 ⟨rfl, rfl⟩) | (go_at_call 29; refine (lands_v hG7 hB7 0 m ld).mono ?_; rintro e w10 ⟨rfl, hb10⟩; rw [hlm.out]; have hG10 := hG7.below hb10; have ha10 := ha7.trans (hb10.mono ha7.size)) | (go_at_call 18; refine (moored_any _ hG10).mono ?_; rintro e w9 ⟨rfl, hb9⟩))
              go_ret
              exact ⟨rfl, ha10.trans (hb9.mono ha10.size)⟩
            | cons x L' =>
              have hx := hall x (List.mem_cons_self ..)
              have hix0 := hi0.out x L' rfl
              have hcx := hc0.out x L' rfl
              have hblt := hb6lt x L' rfl
              clear hall hi0 hc0 hb6lt
              go_wp2_with (first | (refine ld30 rfl _ rfl _ _ rfl hx7 rfl ?_) | (go_at_call 36; refine (climbs_v hL6 hris (by omega)).mono ?_; rintro e w7 ⟨rfl, hb7⟩; have hx7 := (hb7.block _ hxl6).trans hx6; have hG7 := hG6.below hb7; have hB7 := hB6.below hb7; have ha7 := ha6.trans (hb7.mono ha6.size)) | (go_at_call 44; refine (at_v (hL6.below hb7) hr).mono ?_; rintro e w8 ⟨rfl, rfl⟩) | (go_at_call 29; refine (lands_v hG7 hB7 0 m ld).mono ?_; rintro e w10 ⟨rfl, hb10⟩; rw [hlm.out]; have hG10 := hG7.below hb10; have ha10 := ha7.trans (hb10.mono ha7.size); have hcx7 := (hb7.cell (p := ⟨b6, o6, none⟩) hblt).trans hcx; have hcx10 := (hb10.cell (p := ⟨b6, o6, none⟩) (Nat.lt_of_lt_of_le hblt hb7.size)).trans hcx7) | (go_at_call 18; refine (moored_any _ hG10).mono ?_; rintro e w9 ⟨rfl, hb9⟩))
              go_ret
              exact ⟨rfl, ha10.trans (hb9.mono ha10.size)⟩
      · rcases (by omega : (k0 = 2 ∧ k1 = 2) ∨ (k0 = 2 ∧ k1 < 2) ∨ (k0 < 2 ∧ k1 = 2) ∨ (k0 < 2 ∧ k1 < 2)) with ⟨rfl, rfl⟩ | ⟨rfl, hk1'⟩ | ⟨hk0', rfl⟩ | ⟨hk0', hk1'⟩
        · have hi : 0 ≤ idxI L hr := hix.2 ⟨rfl, rfl⟩
          clear hix
          have hid : decide (0 ≤ idxI L hr) = true := by simp [hi]
          rcases hcase with ⟨he, c0, c1, rfl⟩ | ⟨m', he, hlm, c0, c1, hall⟩
          · have := c1 rfl
            omega
          · obtain ⟨rfl, rfl⟩ : m = m' ∧ e = 0 := by simpa using he
            have hlm := Lib.hid hlm
            have hmr : m ≤ hr := by have := c1 rfl; omega
            clear he c0 c1
            cases L with
            | nil =>
              simp [idxI] at hi
            | cons x L' =>
              have hx := hall x (List.mem_cons_self ..)
              have hix0 := hi0.out x L' rfl
              have hcx := hc0.out x L' rfl
              have hblt := hb6lt x L' rfl
              clear hall hi0 hc0 hb6lt
              go_wp2_with (first | (refine ld30 rfl _ rfl _ _ rfl hx7 rfl ?_) | (go_at_call 36; refine (climbs_v hL6 hris (by omega)).mono ?_; rintro e w7 ⟨rfl, hb7⟩; have hx7 := (hb7.block _ hxl6).trans hx6; have hG7 := hG6.below hb7; have hB7 := hB6.below hb7; have ha7 := ha6.trans (hb7.mono ha6.size)) | (go_at_call 44; refine (at_v (hL6.below hb7) hr).mono ?_; rintro e w8 ⟨rfl, rfl⟩) | (go_at_call 29; refine (lands_v hG7 hB7 1 m ld).mono ?_; rintro e w10 ⟨rfl, hb10⟩; rw [hlm.out]; have hG10 := hG7.below hb10; have ha10 := ha7.trans (hb10.mono ha7.size); have hcx7 := (hb7.cell (p := ⟨b6, o6, none⟩) hblt).trans hcx; have hcx10 := (hb10.cell (p := ⟨b6, o6, none⟩) (Nat.lt_of_lt_of_le hblt hb7.size)).trans hcx7) | (go_at_call 18; refine (moored_any _ hG10).mono ?_; rintro e w9 ⟨rfl, hb9⟩))
              go_ret
              exact ⟨rfl, ha10.trans (hb9.mono ha10.size)⟩
        · have hi : ¬ 0 ≤ idxI L hr := fun h => by have := hix.1 h; omega
          clear hix
          have hid : decide (0 ≤ idxI L hr) = false := by simp [hi]
          have hkb : (k1 == 2) = false := by simp; omega
          rcases hcase with ⟨he, c0, c1, rfl⟩ | ⟨m', he, hlm, c0, c1, hall⟩
          · obtain ⟨rfl, rfl⟩ : m = 0 ∧ e = 4 := by simpa using he
            clear he c0 c1
            go_wp2_with (first | (refine ld30 rfl _ rfl _ _ rfl hx7 rfl ?_) | (go_at_call 36; refine (climbs_v hL6 hris (by omega)).mono ?_; rintro e w7 ⟨rfl, hb7⟩; have hx7 := (hb7.block _ hxl6).trans hx6; have hG7 := hG6.below hb7; have hB7 := hB6.below hb7; have ha7 := ha6.trans (hb7.mono ha6.size)) | (go_at_call 44; refine (at_v (hL6.below hb7) hr).mono ?_; rintro e w8 ⟨rfl, rfl⟩) | (go_at_call 18; refine (moored_any _ hG7).mono ?_; rintro e w9 ⟨rfl, hb9⟩))
            go_ret
            exact ⟨rfl, ha7.trans (hb9.mono ha7.size)⟩
          · obtain ⟨rfl, rfl⟩ : m = m' ∧ e = 0 := by simpa using he
            have hlm := Lib.hid hlm
            clear he c0 c1
            cases L with
            | nil =>
              clear hall
              go_wp2_with (first | (refine ld30 rfl _ rfl _ _ rfl hx7 rfl ?_) | (go_at_call 36; refine (climbs_v hL6 hris (by omega)).mono ?_; rintro e w7 ⟨rfl, hb7⟩; have hx7 := (hb7.block _ hxl6).trans hx6; have hG7 := hG6.below hb7; have hB7 := hB6.below hb7; have ha7 := ha6.trans (hb7.mono ha6.size)) | (go_at_call 44; refine (at_v (hL6.below hb7) hr).mono ?_; rintro e w8 ⟨rfl, rfl⟩) | (go_at_call 29; refine (lands_v hG7 hB7 1 m ld).mono ?_; rintro e w10 ⟨rfl, hb10⟩; rw [hlm.out]; have hG10 := hG7.below hb10; have ha10 := ha7.trans (hb10.mono ha7.size)) | (go_at_call 18; refine (moored_any _ hG10).mono ?_; rintro e w9 ⟨rfl, hb9⟩))
              go_ret
              exact ⟨rfl, ha10.trans (hb9.mono ha10.size)⟩
            | cons x L' =>
              have hx := hall x (List.mem_cons_self ..)
              have hix0 := hi0.out x L' rfl
              have hcx := hc0.out x L' rfl
              have hblt := hb6lt x L' rfl
              clear hall hi0 hc0 hb6lt
              go_wp2_with (first | (refine ld30 rfl _ rfl _ _ rfl hx7 rfl ?_) | (go_at_call 36; refine (climbs_v hL6 hris (by omega)).mono ?_; rintro e w7 ⟨rfl, hb7⟩; have hx7 := (hb7.block _ hxl6).trans hx6; have hG7 := hG6.below hb7; have hB7 := hB6.below hb7; have ha7 := ha6.trans (hb7.mono ha6.size)) | (go_at_call 44; refine (at_v (hL6.below hb7) hr).mono ?_; rintro e w8 ⟨rfl, rfl⟩) | (go_at_call 29; refine (lands_v hG7 hB7 1 m ld).mono ?_; rintro e w10 ⟨rfl, hb10⟩; rw [hlm.out]; have hG10 := hG7.below hb10; have ha10 := ha7.trans (hb10.mono ha7.size); have hcx7 := (hb7.cell (p := ⟨b6, o6, none⟩) hblt).trans hcx; have hcx10 := (hb10.cell (p := ⟨b6, o6, none⟩) (Nat.lt_of_lt_of_le hblt hb7.size)).trans hcx7) | (go_at_call 18; refine (moored_any _ hG10).mono ?_; rintro e w9 ⟨rfl, hb9⟩))
              go_ret
              exact ⟨rfl, ha10.trans (hb9.mono ha10.size)⟩
        · have hi : ¬ 0 ≤ idxI L hr := fun h => by have := hix.1 h; omega
          clear hix
          have hid : decide (0 ≤ idxI L hr) = false := by simp [hi]
          have hka : (k0 == 2) = false := by simp; omega
          rcases hcase with ⟨he, c0, c1, rfl⟩ | ⟨m', he, hlm, c0, c1, hall⟩
          · have := c1 rfl
            omega
          · obtain ⟨rfl, rfl⟩ : m = m' ∧ e = 0 := by simpa using he
            have hlm := Lib.hid hlm
            have hmr : m ≤ hr := by have := c1 rfl; omega
            clear he c0 c1
            cases L with
            | nil =>
              clear hall
              go_wp2_with (first | (refine ld30 rfl _ rfl _ _ rfl hx7 rfl ?_) | (go_at_call 36; refine (climbs_v hL6 hris (by omega)).mono ?_; rintro e w7 ⟨rfl, hb7⟩; have hx7 := (hb7.block _ hxl6).trans hx6; have hG7 := hG6.below hb7; have hB7 := hB6.below hb7; have ha7 := ha6.trans (hb7.mono ha6.size)) | (go_at_call 44; refine (at_v (hL6.below hb7) hr).mono ?_; rintro e w8 ⟨rfl, rfl⟩) | (go_at_call 29; refine (lands_v hG7 hB7 1 m ld).mono ?_; rintro e w10 ⟨rfl, hb10⟩; rw [hlm.out]; have hG10 := hG7.below hb10; have ha10 := ha7.trans (hb10.mono ha7.size)) | (go_at_call 18; refine (moored_any _ hG10).mono ?_; rintro e w9 ⟨rfl, hb9⟩))
              go_ret
              exact ⟨rfl, ha10.trans (hb9.mono ha10.size)⟩
            | cons x L' =>
              have hx := hall x (List.mem_cons_self ..)
              have hix0 := hi0.out x L' rfl
              have hcx := hc0.out x L' rfl
              have hblt := hb6lt x L' rfl
              clear hall hi0 hc0 hb6lt
              go_wp2_with (first | (refine ld30 rfl _ rfl _ _ rfl hx7 rfl ?_) | (go_at_call 36; refine (climbs_v hL6 hris (by omega)).mono ?_; rintro e w7 ⟨rfl, hb7⟩; have hx7 := (hb7.block _ hxl6).trans hx6; have hG7 := hG6.below hb7; have hB7 := hB6.below hb7; have ha7 := ha6.trans (hb7.mono ha6.size)) | (go_at_call 44; refine (at_v (hL6.below hb7) hr).mono ?_; rintro e w8 ⟨rfl, rfl⟩) | (go_at_call 29; refine (lands_v hG7 hB7 1 m ld).mono ?_; rintro e w10 ⟨rfl, hb10⟩; rw [hlm.out]; have hG10 := hG7.below hb10; have ha10 := ha7.trans (hb10.mono ha7.size); have hcx7 := (hb7.cell (p := ⟨b6, o6, none⟩) hblt).trans hcx; have hcx10 := (hb10.cell (p := ⟨b6, o6, none⟩) (Nat.lt_of_lt_of_le hblt hb7.size)).trans hcx7) | (go_at_call 18; refine (moored_any _ hG10).mono ?_; rintro e w9 ⟨rfl, hb9⟩))
              go_ret
              exact ⟨rfl, ha10.trans (hb9.mono ha10.size)⟩
        · have hi : ¬ 0 ≤ idxI L hr := fun h => by have := hix.1 h; omega
          clear hix
          have hid : decide (0 ≤ idxI L hr) = false := by simp [hi]
          have hkb : (k1 == 2) = false := by simp; omega
          have hka : (k0 == 2) = false := by simp; omega
          rcases hcase with ⟨he, c0, c1, rfl⟩ | ⟨m', he, hlm, c0, c1, hall⟩
          · obtain ⟨rfl, rfl⟩ : m = 0 ∧ e = 4 := by simpa using he
            clear he c0 c1
            go_wp2_with (first | (refine ld30 rfl _ rfl _ _ rfl hx7 rfl ?_) | (go_at_call 36; refine (climbs_v hL6 hris (by omega)).mono ?_; rintro e w7 ⟨rfl, hb7⟩; have hx7 := (hb7.block _ hxl6).trans hx6; have hG7 := hG6.below hb7; have hB7 := hB6.below hb7; have ha7 := ha6.trans (hb7.mono ha6.size)) | (go_at_call 44; refine (at_v (hL6.below hb7) hr).mono ?_; rintro e w8 ⟨rfl, rfl⟩) | (go_at_call 18; refine (moored_any _ hG7).mono ?_; rintro e w9 ⟨rfl, hb9⟩))
            go_ret
            exact ⟨rfl, ha7.trans (hb9.mono ha7.size)⟩
          · obtain ⟨rfl, rfl⟩ : m = m' ∧ e = 0 := by simpa using he
            have hlm := Lib.hid hlm
            clear he c0 c1
            cases L with
            | nil =>
              clear hall
              go_wp2_with (first | (refine ld30 rfl _ rfl _ _ rfl hx7 rfl ?_) | (go_at_call 36; refine (climbs_v hL6 hris (by omega)).mono ?_; rintro e w7 ⟨rfl, hb7⟩; have hx7 := (hb7.block _ hxl6).trans hx6; have hG7 := hG6.below hb7; have hB7 := hB6.below hb7; have ha7 := ha6.trans (hb7.mono ha6.size)) | (go_at_call 44; refine (at_v (hL6.below hb7) hr).mono ?_; rintro e w8 ⟨rfl, rfl⟩) | (go_at_call 29; refine (lands_v hG7 hB7 1 m ld).mono ?_; rintro e w10 ⟨rfl, hb10⟩; rw [hlm.out]; have hG10 := hG7.below hb10; have ha10 := ha7.trans (hb10.mono ha7.size)) | (go_at_call 18; refine (moored_any _ hG10).mono ?_; rintro e w9 ⟨rfl, hb9⟩))
              go_ret
              exact ⟨rfl, ha10.trans (hb9.mono ha10.size)⟩
            | cons x L' =>
              have hx := hall x (List.mem_cons_self ..)
              have hix0 := hi0.out x L' rfl
              have hcx := hc0.out x L' rfl
              have hblt := hb6lt x L' rfl
              clear hall hi0 hc0 hb6lt
              go_wp2_with (first | (refine ld30 rfl _ rfl _ _ rfl hx7 rfl ?_) | (go_at_call 36; refine (climbs_v hL6 hris (by omega)).mono ?_; rintro e w7 ⟨rfl, hb7⟩; have hx7 := (hb7.block _ hxl6).trans hx6; have hG7 := hG6.below hb7; have hB7 := hB6.below hb7; have ha7 := ha6.trans (hb7.mono ha6.size)) | (go_at_call 44; refine (at_v (hL6.below hb7) hr).mono ?_; rintro e w8 ⟨rfl, rfl⟩) | (go_at_call 29; refine (lands_v hG7 hB7 1 m ld).mono ?_; rintro e w10 ⟨rfl, hb10⟩; rw [hlm.out]; have hG10 := hG7.below hb10; have ha10 := ha7.trans (hb10.mono ha7.size); have hcx7 := (hb7.cell (p := ⟨b6, o6, none⟩) hblt).trans hcx; have hcx10 := (hb10.cell (p := ⟨b6, o6, none⟩) (Nat.lt_of_lt_of_le hblt hb7.size)).trans hcx7) | (go_at_call 18; refine (moored_any _ hG10).mono ?_; rintro e w9 ⟨rfl, hb9⟩))
              go_ret
              exact ⟨rfl, ha10.trans (hb9.mono ha10.size)⟩
theorem LFirst_v {B : Book} {v : Value} {w : World} (hG : GA w) (hB : BookV w v B) (n0 n1 n2 : Int) : Calls Tryd.prog 10 #[v, .agg #[i64 n0, i64 n1, i64 n2]] w (MoorPost w) := by
  obtain ⟨tb, tq, ta, tc, sb, sq, sa, sc, rfl, hT, hS⟩ := hB
  exact LFirst_any B tb tq ta tc sb sq sa sc n0 n1 n2 w hG hT hS
end Go.Proofs.YtkbmpkdflgimmaaDoor
