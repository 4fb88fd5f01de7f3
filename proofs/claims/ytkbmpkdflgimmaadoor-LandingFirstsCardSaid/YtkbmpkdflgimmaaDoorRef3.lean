/- Contracts of the reference's Check and its helpers. (Printed by genref3.py.) -/
import Derived.Test.YtkbmpkdflgimmaaDoorRef2
namespace Go.Proofs.YtkbmpkdflgimmaaDoor
open Go.RowKit Go.Shelf

theorem spanB_valid (a b lo hi : Int) : spanB a b lo hi = (validB a b lo hi && decide (b - a ≤ 4)) := by simp [spanB, validB, Bool.and_assoc]
theorem known_any (a b : Int) (w : World) : Calls Tryd.prog 85 #[.agg #[i64 a, i64 b]] w fun e w' => e = .returned (.bool (spanB a b (-40) 80)) ∧ Below w.heap.size w w' := by
  have hb0 : Below w.heap.size w (w.alloc (.cells #[i64 a, i64 b] 24)) := (Below.refl _ w).alloc (Nat.le_refl _) _
  have hx0 : (w.alloc (.cells #[i64 a, i64 b] 24)).heap[w.heap.size]? = some (.cells #[i64 a, i64 b] 24 (0, 0)) := heap_alloc_new w _
  have hxl0 := (Array.getElem?_eq_some_iff.1 hx0).1
  cases hv : validB a b (-40) 80
  · have hv := Lib.hid hv
    go_enter Tryd.func85, Tryd.ntmps85
    go_wp2_with fail
    refine (valid24_any _ _ _ _ _).mono ?_
    rintro e w1 ⟨rfl, hb1⟩
    rw [hv.out]
    go_wp2_with fail
    go_ret
    exact ⟨by rw [spanB_valid, hv.out]; rfl, hb0.trans (hb1.mono hb0.size)⟩
  · have h9 : -40 ≤ a ∧ a ≤ b ∧ b ≤ 80 := by simpa [validB] using hv
    have hw : IntKind.i64.wrap (b - a) = b - a := wrap_fit (by omega) (by omega)
    have hv := Lib.hid hv
    go_enter Tryd.func85, Tryd.ntmps85
    go_wp2_with fail
    refine (valid24_any _ _ _ _ _).mono ?_
    rintro e w1 ⟨rfl, hb1⟩
    rw [hv.out]
    have hx1 := (hb1.block _ hxl0).trans hx0
    have hxc := cells_of hx1
    have hxl := (Array.getElem?_eq_some_iff.1 hx1).1
    cases hd : decide (b - a ≤ 4)
    · have hd9 : 4 < b - a := by have := of_decide_eq_false hd; omega
      go_wp2_with fail
      go_ret
      exact ⟨by rw [spanB_valid, hv.out, hd]; rfl, hb0.trans (hb1.mono hb0.size)⟩
    · have hd9 : b - a ≤ 4 := of_decide_eq_true hd
      go_wp2_with fail
      go_ret
      exact ⟨by rw [spanB_valid, hv.out, hd]; rfl, hb0.trans (hb1.mono hb0.size)⟩
theorem isShoreR_any (n : Int) (w : World) : Calls Tryd.prog 87 #[i64 n] w fun e w' => e = .returned (.bool (inB n 0 1)) ∧ w = w' := by
  go_enter Tryd.func87, Tryd.ntmps87
  go_wp2_with (go_at_call 31; refine (inside_any _ _ _ _).mono ?_; rintro e w' ⟨rfl, rfl⟩)
  go_ret
  exact ⟨rfl, rfl⟩
theorem isLoadR_any (n : Int) (w : World) : Calls Tryd.prog 91 #[i64 n] w fun e w' => e = .returned (.bool (inB n 0 200)) ∧ w = w' := by
  go_enter Tryd.func91, Tryd.ntmps91
  go_wp2_with (go_at_call 31; refine (inside_any _ _ _ _).mono ?_; rintro e w' ⟨rfl, rfl⟩)
  go_ret
  exact ⟨rfl, rfl⟩
theorem isHourR_any (B : Book) (ta : Option Addr) (tc : Nat) (sa : Option Addr) (sc : Nat) (n : Int) (w : World) (hl : B.tides.length * 16 ≤ 140737488351232) :
    Calls Tryd.prog 86 #[bookVal B ta tc sa sc, i64 n] w fun e w' => e = .returned (.bool (hourB B n)) ∧ Below w.heap.size w w' := by
  go_enter Tryd.func86, Tryd.ntmps86
  go_wp2_with (go_at_call 31; refine (inside_any _ _ _ _).mono ?_; rintro e w' ⟨rfl, rfl⟩)
  go_ret
  exact ⟨rfl, (Below.refl _ _).alloc (Nat.le_refl _) _⟩
theorem hdr_eq (B : Book) : hdrB B = (inB B.tides.length 1 24 && (validB B.el B.eh 0 40 && (decide (B.eh - B.el ≤ 4) && (inB B.sink 1 20 && (inB B.under 0 10 && decide ((B.sounds.length : Int) ≤ 6)))))) := by
  unfold hdrB
  rw [spanB_valid]
  simp [Bool.and_assoc]
theorem take_all (B : Book) (k : Nat) (h : k < B.tides.length) (h1 : ∀ j (hj : j < B.tides.length), j < k → spanOk B.tides[j] = true) (h2 : spanOk B.tides[k] = true) : ∀ j (hj : j < B.tides.length), j < k + 1 → spanOk B.tides[j] = true := by
  intro j hj hjk
  rcases Nat.lt_or_ge j k with h3 | h3
  · exact h1 j hj h3
  · obtain rfl : j = k := by omega
    exact h2
theorem takeS_all (B : Book) (k : Nat) (h : k < B.sounds.length) (h1 : ∀ j (hj : j < B.sounds.length), j < k → soundOk B.tides.length B.sounds[j] = true) (h2 : soundOk B.tides.length B.sounds[k] = true) : ∀ j (hj : j < B.sounds.length), j < k + 1 → soundOk B.tides.length B.sounds[j] = true := by
  intro j hj hjk
  rcases Nat.lt_or_ge j k with h3 | h3
  · exact h1 j hj h3
  · obtain rfl : j = k := by omega
    exact h2
theorem all_get {α : Type} {l : List α} {p : α → Bool} (h : ∀ j (hj : j < l.length), p l[j] = true) : l.all p = true := by
  rw [List.all_eq_true]
  intro x hx
  obtain ⟨j, hj, rfl⟩ := List.getElem_of_mem hx
  exact h j hj
theorem bad_tide {B : Book} {k : Nat} (h : k < B.tides.length) (h2 : spanOk B.tides[k] = false) : B.valid = false := by
  cases hv : B.valid
  · rfl
  · unfold Book.valid at hv
    simp only [Bool.and_eq_true] at hv
    have := List.all_eq_true.1 hv.1.1.1.2 _ (List.getElem_mem h)
    rw [h2] at this
    cases this
theorem bad_sound {B : Book} {k : Nat} (h : k < B.sounds.length) (h2 : soundOk B.tides.length B.sounds[k] = false) : B.valid = false := by
  cases hv : B.valid
  · rfl
  · unfold Book.valid at hv
    simp only [Bool.and_eq_true] at hv
    have := List.all_eq_true.1 hv.2 _ (List.getElem_mem h)
    rw [h2] at this
    cases this
theorem bad_hdr {B : Book} (h : hdrB B = false) : B.valid = false := by simp [Book.valid, h]
theorem bad_s0 {B : Book} (h : shoreOk B.s0 = false) : B.valid = false := by simp [Book.valid, h]
theorem bad_s1 {B : Book} (h : shoreOk B.s1 = false) : B.valid = false := by simp [Book.valid, h]
theorem good_all {B : Book} (h1 : hdrB B = true) (h2 : ∀ j (hj : j < B.tides.length), spanOk B.tides[j] = true) (h3 : shoreOk B.s0 = true) (h4 : shoreOk B.s1 = true) (h5 : ∀ j (hj : j < B.sounds.length), soundOk B.tides.length B.sounds[j] = true) : B.valid = true := by
  simp [Book.valid, h1, h3, h4, all_get h2, all_get h5]
set_option maxRecDepth 100000 in
set_option maxHeartbeats 4000000 in
theorem checkR_any (B : Book) (tb tq : Nat) (ta : Option Addr) (tc : Nat) (sb sq : Nat) (sa : Option Addr) (sc : Nat) (w : World) (hT : SpansAt w.heap.size w tb tq ta B.tides) (hS : SoundsAt w.heap.size w sb sq sa B.sounds) :
    Calls Tryd.prog 58 #[bookVal B ta tc sa sc] w fun e w' => e = .returned (i64 (checkE B)) ∧ Below w.heap.size w w' := by
  have hb0 : Below w.heap.size w (w.alloc (.cells (bookCells B ta tc sa sc) 30)) := (Below.refl _ w).alloc (Nat.le_refl _) _
  have hx0 : (w.alloc (.cells (bookCells B ta tc sa sc) 30)).heap[w.heap.size]? = some (.cells (bookCells B ta tc sa sc) 30 (0, 0)) := heap_alloc_new w _
  have hxl0 := (Array.getElem?_eq_some_iff.1 hx0).1
  have htl := hT.len
  have hsl := hS.len
  go_enter Tryd.func58, Tryd.ntmps58
  go_upto_region 1 with fail
  obtain ⟨W0, hW0⟩ : ∃ W0, w.alloc (.cells (bookCells B ta tc sa sc) 30) = W0 := ⟨_, rfl⟩
  rw [hW0] at hb0 hx0 hxl0 ⊢
  clear hW0
  have hxc0 := cells_of hx0
  go_cut [3] (fun c wx => c = .bool (hdrB B) ∧ Below W0.heap.size W0 wx)
  case first =>
    cases h1 : inB B.tides.length 1 24
    · have g1 := Lib.hid h1
      clear h1
      go_wp2_with (first | (go_at_call 31; (with_reducible refine (inside_any _ _ _ _).mono ?_); rintro e w' ⟨rfl, rfl⟩; first | rw [g1.out]))
      go_meet
      case rel => exact ⟨by rw [hdr_eq, g1.out]; rfl, Below.refl _ _⟩
    · skip
      cases h2 : validB B.el B.eh 0 40
      · have g1 := Lib.hid h1
        have g2 := Lib.hid h2
        clear h1 h2
        go_wp2_with (first | (go_at_call 31; (with_reducible refine (inside_any _ _ _ _).mono ?_); rintro e w' ⟨rfl, rfl⟩; first | rw [g1.out]) | (go_at_call 68; refine (valid24_any _ _ _ _ _).mono ?_; rintro e w2 ⟨rfl, hb2⟩; rw [g2.out]; have hx2 := (hb2.block _ hxl0).trans hx0; have hxc2 := cells_of hx2; have hxl2 := (Array.getElem?_eq_some_iff.1 hx2).1))
        go_meet
        case rel => exact ⟨by rw [hdr_eq, g1.out, g2.out]; rfl, hb2⟩
      · skip
        cases h3 : decide (B.eh - B.el ≤ 4)
        · have hel : 0 ≤ B.el ∧ B.el ≤ B.eh ∧ B.eh ≤ 40 := by have := h2; simpa [validB] using this
          have hwe : IntKind.i64.wrap (B.eh - B.el) = B.eh - B.el := wrap_fit (by omega) (by omega)
          have h3d : 4 < B.eh - B.el := by have := of_decide_eq_false h3; omega
          have g1 := Lib.hid h1
          have g2 := Lib.hid h2
          have g3 := Lib.hid h3
          clear h1 h2 h3
          go_wp2_with (first | (go_at_call 31; (with_reducible refine (inside_any _ _ _ _).mono ?_); rintro e w' ⟨rfl, rfl⟩; first | rw [g1.out]) | (go_at_call 68; refine (valid24_any _ _ _ _ _).mono ?_; rintro e w2 ⟨rfl, hb2⟩; rw [g2.out]; have hx2 := (hb2.block _ hxl0).trans hx0; have hxc2 := cells_of hx2; have hxl2 := (Array.getElem?_eq_some_iff.1 hx2).1))
          go_meet
          case rel => exact ⟨by rw [hdr_eq, g1.out, g2.out, g3.out]; rfl, hb2⟩
        · skip
          cases h4 : inB B.sink 1 20
          · have hel : 0 ≤ B.el ∧ B.el ≤ B.eh ∧ B.eh ≤ 40 := by have := h2; simpa [validB] using this
            have hwe : IntKind.i64.wrap (B.eh - B.el) = B.eh - B.el := wrap_fit (by omega) (by omega)
            have h3d : B.eh - B.el ≤ 4 := of_decide_eq_true h3
            have g1 := Lib.hid h1
            have g2 := Lib.hid h2
            have g3 := Lib.hid h3
            have g4 := Lib.hid h4
            clear h1 h2 h3 h4
            go_wp2_with (first | (go_at_call 31; (with_reducible refine (inside_any _ _ _ _).mono ?_); rintro e w' ⟨rfl, rfl⟩; first | rw [g1.out] | rw [g4.out]) | (go_at_call 68; refine (valid24_any _ _ _ _ _).mono ?_; rintro e w2 ⟨rfl, hb2⟩; rw [g2.out]; have hx2 := (hb2.block _ hxl0).trans hx0; have hxc2 := cells_of hx2; have hxl2 := (Array.getElem?_eq_some_iff.1 hx2).1))
            go_meet
            case rel => exact ⟨by rw [hdr_eq, g1.out, g2.out, g3.out, g4.out]; rfl, hb2⟩
          · skip
            cases h5 : inB B.under 0 10
            · have hel : 0 ≤ B.el ∧ B.el ≤ B.eh ∧ B.eh ≤ 40 := by have := h2; simpa [validB] using this
              have hwe : IntKind.i64.wrap (B.eh - B.el) = B.eh - B.el := wrap_fit (by omega) (by omega)
              have h3d : B.eh - B.el ≤ 4 := of_decide_eq_true h3
              have g1 := Lib.hid h1
              have g2 := Lib.hid h2
              have g3 := Lib.hid h3
              have g4 := Lib.hid h4
              have g5 := Lib.hid h5
              clear h1 h2 h3 h4 h5
              go_wp2_with (first | (go_at_call 31; (with_reducible refine (inside_any _ _ _ _).mono ?_); rintro e w' ⟨rfl, rfl⟩; first | rw [g1.out] | rw [g4.out] | rw [g5.out]) | (go_at_call 68; refine (valid24_any _ _ _ _ _).mono ?_; rintro e w2 ⟨rfl, hb2⟩; rw [g2.out]; have hx2 := (hb2.block _ hxl0).trans hx0; have hxc2 := cells_of hx2; have hxl2 := (Array.getElem?_eq_some_iff.1 hx2).1))
              go_meet
              case rel => exact ⟨by rw [hdr_eq, g1.out, g2.out, g3.out, g4.out, g5.out]; rfl, hb2⟩
            · skip
              cases h6 : decide ((B.sounds.length : Int) ≤ 6)
              · have hel : 0 ≤ B.el ∧ B.el ≤ B.eh ∧ B.eh ≤ 40 := by have := h2; simpa [validB] using this
                have hwe : IntKind.i64.wrap (B.eh - B.el) = B.eh - B.el := wrap_fit (by omega) (by omega)
                have h3d : B.eh - B.el ≤ 4 := of_decide_eq_true h3
                have h6d : 6 < (B.sounds.length : Int) := by have := of_decide_eq_false h6; omega
                have g1 := Lib.hid h1
                have g2 := Lib.hid h2
                have g3 := Lib.hid h3
                have g4 := Lib.hid h4
                have g5 := Lib.hid h5
                have g6 := Lib.hid h6
                clear h1 h2 h3 h4 h5 h6
                go_wp2_with (first | (go_at_call 31; (with_reducible refine (inside_any _ _ _ _).mono ?_); rintro e w' ⟨rfl, rfl⟩; first | rw [g1.out] | rw [g4.out] | rw [g5.out]) | (go_at_call 68; refine (valid24_any _ _ _ _ _).mono ?_; rintro e w2 ⟨rfl, hb2⟩; rw [g2.out]; have hx2 := (hb2.block _ hxl0).trans hx0; have hxc2 := cells_of hx2; have hxl2 := (Array.getElem?_eq_some_iff.1 hx2).1))
                go_meet
                case rel => exact ⟨by rw [hdr_eq, g1.out, g2.out, g3.out, g4.out, g5.out, g6.out]; rfl, hb2⟩
              · have hel : 0 ≤ B.el ∧ B.el ≤ B.eh ∧ B.eh ≤ 40 := by have := h2; simpa [validB] using this
                have hwe : IntKind.i64.wrap (B.eh - B.el) = B.eh - B.el := wrap_fit (by omega) (by omega)
                have h3d : B.eh - B.el ≤ 4 := of_decide_eq_true h3
                have h6d : (B.sounds.length : Int) ≤ 6 := of_decide_eq_true h6
                have g1 := Lib.hid h1
                have g2 := Lib.hid h2
                have g3 := Lib.hid h3
                have g4 := Lib.hid h4
                have g5 := Lib.hid h5
                have g6 := Lib.hid h6
                clear h1 h2 h3 h4 h5 h6
                go_wp2_with (first | (go_at_call 31; (with_reducible refine (inside_any _ _ _ _).mono ?_); rintro e w' ⟨rfl, rfl⟩; first | rw [g1.out] | rw [g4.out] | rw [g5.out]) | (go_at_call 68; refine (valid24_any _ _ _ _ _).mono ?_; rintro e w2 ⟨rfl, hb2⟩; rw [g2.out]; have hx2 := (hb2.block _ hxl0).trans hx0; have hxc2 := cells_of hx2; have hxl2 := (Array.getElem?_eq_some_iff.1 hx2).1))
                go_meet
                case rel => exact ⟨by rw [hdr_eq, g1.out, g2.out, g3.out, g4.out, g5.out, g6.out]; rfl, hb2⟩
  case rest =>
    obtain ⟨rfl, hbc⟩ := hcut
    have hb1 := hb0.trans (hbc.mono hb0.size)
    have hx1 := (hbc.block _ hxl0).trans hx0
    clear hb0 hx0 hxl0 hxc0 hbc
    obtain ⟨W1, hW1⟩ : ∃ W1, wc = W1 := ⟨_, rfl⟩
    rw [hW1] at hb1 hx1 ⊢
    clear hW1
    go_wp2_with fail
    go_loopw [4, 3] (fun i ok wr => ∃ (k : Nat) (b : Bool), k ≤ B.tides.length ∧ i = .int .i64 k ∧ ok = .bool b ∧ Below W1.heap.size W1 wr ∧ Hid ((b = true → hdrB B = true ∧ ∀ j (hj : j < B.tides.length), j < k → spanOk B.tides[j] = true) ∧ (b = false → B.valid = false))) (fun i _ _ => B.tides.length - (intOf i).toNat)
    case atStart => exact ⟨0, hdrB B, Nat.zero_le _, rfl, rfl, Below.refl _ _, ⟨fun h => ⟨h, fun j _ h0 => by omega⟩, bad_hdr⟩⟩
    case round =>
      obtain ⟨k, b, hk, rfl, rfl, hbw, hI⟩ := hrel
      have hxr := (hbw.block _ (Array.getElem?_eq_some_iff.1 hx1).1).trans hx1
      have hxc := cells_of hxr
      have hxl := (Array.getElem?_eq_some_iff.1 hxr).1
      have hbk := hb1.trans (hbw.mono hb1.size)
      cases b
      · have hC : Hid (checkE B = 20) := Lib.hid (by have := hI.out.2 rfl; simp [checkE, this])
        go_wp2_with fail
        refine wp_loop_rounds 1 ?_
        rw [rounds_succ]
        go_wp2_with fail
        refine wp_loop_rounds 1 ?_
        rw [rounds_succ]
        go_wp2_with fail
        go_ret
        exact ⟨by rw [hC.out]; rfl, hbk⟩
      · have hIt := Lib.hid (hI.out.1 rfl)
        clear hI
        by_cases hlt : k < B.tides.length
        · have hT1 := hT.same (Same.of_below hbk)
          have hidx := fun W => idx22 (n := B.tides.length) (c := tc) (k := k) W (hT1.at_ (ne_nil_of_lt hlt)) hlt
          have hc1 := hT1.lo k hlt
          have hc2 := hT1.hi k hlt
          have hlk : (k : Int) < (B.tides.length : Int) := by omega
          cases hs : spanOk B.tides[k]
          · have hsH := Lib.hid hs
            have hsp : Hid (spanB B.tides[k].lo B.tides[k].hi (-40) 80 = false) := Lib.hid hs
            clear hs
            go_wp2_with (go_at_call 85; refine (known_any _ _ _).mono ?_; rintro e w2 ⟨rfl, hb2⟩; rw [hsp.out]; have hbw2 := hbw.trans (hb2.mono hbw.size))
            go_roundw
            case rel => first | exact ⟨k + 1, false, by omega, by go_num, rfl, hbw2, ⟨fun h => (by cases h), fun _ => bad_tide hlt hsH.out⟩⟩ | ((repeat apply Exists.intro); refine ⟨?_, rfl⟩; exact ⟨k + 1, false, by omega, by go_num, rfl, hbw2, ⟨fun h => (by cases h), fun _ => bad_tide hlt hsH.out⟩⟩)
            case measure => simp [intOf]; omega
          · have hsH := Lib.hid hs
            have hsp : Hid (spanB B.tides[k].lo B.tides[k].hi (-40) 80 = true) := Lib.hid hs
            clear hs
            go_wp2_with (go_at_call 85; refine (known_any _ _ _).mono ?_; rintro e w2 ⟨rfl, hb2⟩; rw [hsp.out]; have hbw2 := hbw.trans (hb2.mono hbw.size))
            go_roundw
            case rel => first | exact ⟨k + 1, true, by omega, by go_num, rfl, hbw2, ⟨fun _ => ⟨hIt.out.1, take_all B k hlt hIt.out.2 hsH.out⟩, fun h => (by cases h)⟩⟩ | ((repeat apply Exists.intro); refine ⟨?_, rfl⟩; exact ⟨k + 1, true, by omega, by go_num, rfl, hbw2, ⟨fun _ => ⟨hIt.out.1, take_all B k hlt hIt.out.2 hsH.out⟩, fun h => (by cases h)⟩⟩)
            case measure => simp [intOf]; omega
        · have hlk : ¬ (k : Int) < (B.tides.length : Int) := by omega
          obtain rfl : k = B.tides.length := by omega
          have hI1 := hIt
          clear hIt
          go_wp2_with fail
          obtain ⟨W3, rfl⟩ : ∃ W3 : World, W3 = wr := ⟨_, rfl⟩
          go_loopw [5, 3] (fun i ok wr => ∃ (k : Nat) (b : Bool), k ≤ 2 ∧ i = .int .i64 k ∧ ok = .bool b ∧ Below W3.heap.size W3 wr ∧ Hid ((b = true → (1 ≤ k → shoreOk B.s0 = true) ∧ (2 ≤ k → shoreOk B.s1 = true)) ∧ (b = false → B.valid = false))) (fun i _ _ => 2 - (intOf i).toNat)
          case atStart => exact ⟨0, true, by omega, rfl, rfl, Below.refl _ _, ⟨fun _ => ⟨fun h => by omega, fun h => by omega⟩, fun h => by cases h⟩⟩
          case round =>
            obtain ⟨j, b, hj, rfl, rfl, hbw2, hI⟩ := hrel
            obtain ⟨wr2, rfl⟩ : ∃ wr2 : World, wr2 = wr := ⟨_, rfl⟩
            have hxr3 := hxr
            have hxr := (hbw2.block _ (Array.getElem?_eq_some_iff.1 hxr3).1).trans hxr3
            have hxc := cells_of hxr
            have hxl := (Array.getElem?_eq_some_iff.1 hxr).1
            have hbk2 := hbk.trans (hbw2.mono hbk.size)
            cases b
            · have hC : Hid (checkE B = 20) := Lib.hid (by have := hI.out.2 rfl; simp [checkE, this])
              go_wp2_with fail
              refine wp_loop_rounds 1 ?_
              rw [rounds_succ]
              go_wp2_with fail
              go_ret
              exact ⟨by rw [hC.out]; rfl, hbk2⟩
            · have hIt := Lib.hid (hI.out.1 rfl)
              clear hI
              rcases (by omega : j = 0 ∨ j = 1 ∨ j = 2) with rfl | rfl | rfl
              · cases h1 : spanB B.s0.fl B.s0.fh (-40) 80
                · have g1 := Lib.hid h1
                  clear h1
                  go_wp2_with (first | (go_at_call 85; refine (known_any _ _ _).mono ?_; rintro e w2 ⟨rfl, hb2⟩; rw [g1.out]; have hy := (hb2.block wr2.heap.size (by simp)).trans (heap_alloc_new wr2 _); have hyc := cells_of hy; have hyl := (Array.getElem?_eq_some_iff.1 hy).1; have hbw3 := hbw2.trans ((((Below.refl _ wr2).alloc (Nat.le_refl _) _).trans (hb2.mono (by simp))).mono hbw2.size)))
                  go_roundw
                  case rel => first | exact ⟨1, false, by omega, by go_num, rfl, hbw3, ⟨fun h => (by cases h), fun _ => bad_s0 (show shoreOk B.s0 = false by unfold shoreOk; rw [g1.out]; rfl)⟩⟩ | ((repeat apply Exists.intro); refine ⟨?_, rfl⟩; exact ⟨1, false, by omega, by go_num, rfl, hbw3, ⟨fun h => (by cases h), fun _ => bad_s0 (show shoreOk B.s0 = false by unfold shoreOk; rw [g1.out]; rfl)⟩⟩)
                  case measure => simp [intOf]
                · skip
                  cases h2 : inB B.s0.lo (-40) B.s0.hi
                  · have g1 := Lib.hid h1
                    have g2 := Lib.hid h2
                    clear h1 h2
                    go_wp2_with (first | (go_at_call 85; refine (known_any _ _ _).mono ?_; rintro e w2 ⟨rfl, hb2⟩; rw [g1.out]; have hy := (hb2.block wr2.heap.size (by simp)).trans (heap_alloc_new wr2 _); have hyc := cells_of hy; have hyl := (Array.getElem?_eq_some_iff.1 hy).1; have hbw3 := hbw2.trans ((((Below.refl _ wr2).alloc (Nat.le_refl _) _).trans (hb2.mono (by simp))).mono hbw2.size)) | (go_at_call 31; refine (inside_any _ _ _ _).mono ?_; rintro e w' ⟨rfl, rfl⟩; rw [g2.out]))
                    go_roundw
                    case rel => first | exact ⟨1, false, by omega, by go_num, rfl, hbw3, ⟨fun h => (by cases h), fun _ => bad_s0 (show shoreOk B.s0 = false by unfold shoreOk; rw [g1.out, g2.out]; rfl)⟩⟩ | ((repeat apply Exists.intro); refine ⟨?_, rfl⟩; exact ⟨1, false, by omega, by go_num, rfl, hbw3, ⟨fun h => (by cases h), fun _ => bad_s0 (show shoreOk B.s0 = false by unfold shoreOk; rw [g1.out, g2.out]; rfl)⟩⟩)
                    case measure => simp [intOf]
                  · skip
                    cases h3 : decide (B.s0.hi ≤ 80)
                    · have g1 := Lib.hid h1
                      have g2 := Lib.hid h2
                      have g3 := Lib.hid h3
                      have h3d : 80 < B.s0.hi := by have := of_decide_eq_false h3; omega
                      clear h1 h2
                      go_wp2_with (first | (go_at_call 85; refine (known_any _ _ _).mono ?_; rintro e w2 ⟨rfl, hb2⟩; rw [g1.out]; have hy := (hb2.block wr2.heap.size (by simp)).trans (heap_alloc_new wr2 _); have hyc := cells_of hy; have hyl := (Array.getElem?_eq_some_iff.1 hy).1; have hbw3 := hbw2.trans ((((Below.refl _ wr2).alloc (Nat.le_refl _) _).trans (hb2.mono (by simp))).mono hbw2.size)) | (go_at_call 31; refine (inside_any _ _ _ _).mono ?_; rintro e w' ⟨rfl, rfl⟩; rw [g2.out]))
                      go_roundw
                      case rel => first | exact ⟨1, false, by omega, by go_num, rfl, hbw3, ⟨fun h => (by cases h), fun _ => bad_s0 (show shoreOk B.s0 = false by unfold shoreOk; rw [g1.out, g2.out, g3.out]; rfl)⟩⟩ | ((repeat apply Exists.intro); refine ⟨?_, rfl⟩; exact ⟨1, false, by omega, by go_num, rfl, hbw3, ⟨fun h => (by cases h), fun _ => bad_s0 (show shoreOk B.s0 = false by unfold shoreOk; rw [g1.out, g2.out, g3.out]; rfl)⟩⟩)
                      case measure => simp [intOf]
                    · have g1 := Lib.hid h1
                      have g2 := Lib.hid h2
                      have g3 := Lib.hid h3
                      have h3d : B.s0.hi ≤ 80 := of_decide_eq_true h3
                      clear h1 h2
                      go_wp2_with (first | (go_at_call 85; refine (known_any _ _ _).mono ?_; rintro e w2 ⟨rfl, hb2⟩; rw [g1.out]; have hy := (hb2.block wr2.heap.size (by simp)).trans (heap_alloc_new wr2 _); have hyc := cells_of hy; have hyl := (Array.getElem?_eq_some_iff.1 hy).1; have hbw3 := hbw2.trans ((((Below.refl _ wr2).alloc (Nat.le_refl _) _).trans (hb2.mono (by simp))).mono hbw2.size)) | (go_at_call 31; refine (inside_any _ _ _ _).mono ?_; rintro e w' ⟨rfl, rfl⟩; rw [g2.out]))
                      go_roundw
                      case rel => first | exact ⟨1, true, by omega, by go_num, rfl, hbw3, ⟨fun _ => ⟨fun _ => (show shoreOk B.s0 = true by unfold shoreOk; rw [g1.out, g2.out, g3.out]; rfl), fun h => by omega⟩, fun h => by cases h⟩⟩ | ((repeat apply Exists.intro); refine ⟨?_, rfl⟩; exact ⟨1, true, by omega, by go_num, rfl, hbw3, ⟨fun _ => ⟨fun _ => (show shoreOk B.s0 = true by unfold shoreOk; rw [g1.out, g2.out, g3.out]; rfl), fun h => by omega⟩, fun h => by cases h⟩⟩)
                      case measure => simp [intOf]
              · cases h1 : spanB B.s1.fl B.s1.fh (-40) 80
                · have g1 := Lib.hid h1
                  clear h1
                  go_wp2_with (first | (go_at_call 85; refine (known_any _ _ _).mono ?_; rintro e w2 ⟨rfl, hb2⟩; rw [g1.out]; have hy := (hb2.block wr2.heap.size (by simp)).trans (heap_alloc_new wr2 _); have hyc := cells_of hy; have hyl := (Array.getElem?_eq_some_iff.1 hy).1; have hbw3 := hbw2.trans ((((Below.refl _ wr2).alloc (Nat.le_refl _) _).trans (hb2.mono (by simp))).mono hbw2.size)))
                  go_roundw
                  case rel => first | exact ⟨2, false, by omega, by go_num, rfl, hbw3, ⟨fun h => (by cases h), fun _ => bad_s1 (show shoreOk B.s1 = false by unfold shoreOk; rw [g1.out]; rfl)⟩⟩ | ((repeat apply Exists.intro); refine ⟨?_, rfl⟩; exact ⟨2, false, by omega, by go_num, rfl, hbw3, ⟨fun h => (by cases h), fun _ => bad_s1 (show shoreOk B.s1 = false by unfold shoreOk; rw [g1.out]; rfl)⟩⟩)
                  case measure => simp [intOf]
                · skip
                  cases h2 : inB B.s1.lo (-40) B.s1.hi
                  · have g1 := Lib.hid h1
                    have g2 := Lib.hid h2
                    clear h1 h2
                    go_wp2_with (first | (go_at_call 85; refine (known_any _ _ _).mono ?_; rintro e w2 ⟨rfl, hb2⟩; rw [g1.out]; have hy := (hb2.block wr2.heap.size (by simp)).trans (heap_alloc_new wr2 _); have hyc := cells_of hy; have hyl := (Array.getElem?_eq_some_iff.1 hy).1; have hbw3 := hbw2.trans ((((Below.refl _ wr2).alloc (Nat.le_refl _) _).trans (hb2.mono (by simp))).mono hbw2.size)) | (go_at_call 31; refine (inside_any _ _ _ _).mono ?_; rintro e w' ⟨rfl, rfl⟩; rw [g2.out]))
                    go_roundw
                    case rel => first | exact ⟨2, false, by omega, by go_num, rfl, hbw3, ⟨fun h => (by cases h), fun _ => bad_s1 (show shoreOk B.s1 = false by unfold shoreOk; rw [g1.out, g2.out]; rfl)⟩⟩ | ((repeat apply Exists.intro); refine ⟨?_, rfl⟩; exact ⟨2, false, by omega, by go_num, rfl, hbw3, ⟨fun h => (by cases h), fun _ => bad_s1 (show shoreOk B.s1 = false by unfold shoreOk; rw [g1.out, g2.out]; rfl)⟩⟩)
                    case measure => simp [intOf]
                  · skip
                    cases h3 : decide (B.s1.hi ≤ 80)
                    · have g1 := Lib.hid h1
                      have g2 := Lib.hid h2
                      have g3 := Lib.hid h3
                      have h3d : 80 < B.s1.hi := by have := of_decide_eq_false h3; omega
                      clear h1 h2
                      go_wp2_with (first | (go_at_call 85; refine (known_any _ _ _).mono ?_; rintro e w2 ⟨rfl, hb2⟩; rw [g1.out]; have hy := (hb2.block wr2.heap.size (by simp)).trans (heap_alloc_new wr2 _); have hyc := cells_of hy; have hyl := (Array.getElem?_eq_some_iff.1 hy).1; have hbw3 := hbw2.trans ((((Below.refl _ wr2).alloc (Nat.le_refl _) _).trans (hb2.mono (by simp))).mono hbw2.size)) | (go_at_call 31; refine (inside_any _ _ _ _).mono ?_; rintro e w' ⟨rfl, rfl⟩; rw [g2.out]))
                      go_roundw
                      case rel => first | exact ⟨2, false, by omega, by go_num, rfl, hbw3, ⟨fun h => (by cases h), fun _ => bad_s1 (show shoreOk B.s1 = false by unfold shoreOk; rw [g1.out, g2.out, g3.out]; rfl)⟩⟩ | ((repeat apply Exists.intro); refine ⟨?_, rfl⟩; exact ⟨2, false, by omega, by go_num, rfl, hbw3, ⟨fun h => (by cases h), fun _ => bad_s1 (show shoreOk B.s1 = false by unfold shoreOk; rw [g1.out, g2.out, g3.out]; rfl)⟩⟩)
                      case measure => simp [intOf]
                    · have g1 := Lib.hid h1
                      have g2 := Lib.hid h2
                      have g3 := Lib.hid h3
                      have h3d : B.s1.hi ≤ 80 := of_decide_eq_true h3
                      clear h1 h2
                      go_wp2_with (first | (go_at_call 85; refine (known_any _ _ _).mono ?_; rintro e w2 ⟨rfl, hb2⟩; rw [g1.out]; have hy := (hb2.block wr2.heap.size (by simp)).trans (heap_alloc_new wr2 _); have hyc := cells_of hy; have hyl := (Array.getElem?_eq_some_iff.1 hy).1; have hbw3 := hbw2.trans ((((Below.refl _ wr2).alloc (Nat.le_refl _) _).trans (hb2.mono (by simp))).mono hbw2.size)) | (go_at_call 31; refine (inside_any _ _ _ _).mono ?_; rintro e w' ⟨rfl, rfl⟩; rw [g2.out]))
                      go_roundw
                      case rel => first | exact ⟨2, true, by omega, by go_num, rfl, hbw3, ⟨fun _ => ⟨fun _ => hIt.out.1 (by omega), fun _ => (show shoreOk B.s1 = true by unfold shoreOk; rw [g1.out, g2.out, g3.out]; rfl)⟩, fun h => by cases h⟩⟩ | ((repeat apply Exists.intro); refine ⟨?_, rfl⟩; exact ⟨2, true, by omega, by go_num, rfl, hbw3, ⟨fun _ => ⟨fun _ => hIt.out.1 (by omega), fun _ => (show shoreOk B.s1 = true by unfold shoreOk; rw [g1.out, g2.out, g3.out]; rfl)⟩, fun h => by cases h⟩⟩)
                      case measure => simp [intOf]
              · have hI2 := hIt
                clear hIt
                go_wp2_with fail
                go_loopw [7, 3] (fun i ok wr => ∃ (k : Nat) (b : Bool), k ≤ B.sounds.length ∧ i = .int .i64 k ∧ ok = .bool b ∧ Below wr2.heap.size wr2 wr ∧ Hid ((b = true → ∀ j (hj : j < B.sounds.length), j < k → soundOk B.tides.length B.sounds[j] = true) ∧ (b = false → B.valid = false))) (fun i _ _ => B.sounds.length - (intOf i).toNat)
                case atStart => exact ⟨0, true, Nat.zero_le _, rfl, rfl, Below.refl _ _, ⟨fun _ j _ h => by omega, fun h => by cases h⟩⟩
                case round =>
                  obtain ⟨k3, b, hk3, rfl, rfl, hbw3, hI⟩ := hrel
                  obtain ⟨wr3, rfl⟩ : ∃ wr3 : World, wr3 = wr := ⟨_, rfl⟩
                  have hxr4 := (hbw3.block _ hxl).trans hxr
                  have hbk3 := hbk2.trans (hbw3.mono hbk2.size)
                  clear hxc hxl
                  have hxc := cells_of hxr4
                  have hxl := (Array.getElem?_eq_some_iff.1 hxr4).1
                  cases b
                  · have hC : Hid (checkE B = 20) := Lib.hid (by have := hI.out.2 rfl; simp [checkE, this])
                    go_wp2_with fail
                    go_ret
                    exact ⟨by rw [hC.out]; rfl, hbk3⟩
                  · have hIt := Lib.hid (hI.out.1 rfl)
                    clear hI
                    by_cases hlt3 : k3 < B.sounds.length
                    · have hS1 := hS.same (Same.of_below hbk3)
                      have hidx := fun W => idx28 (n := B.sounds.length) (c := sc) (k := k3) W (hS1.at_ (ne_nil_of_lt hlt3)) hlt3
                      have hc1 := hS1.hour k3 hlt3
                      have hc2 := hS1.shore k3 hlt3
                      have hc3 := hS1.deep k3 hlt3
                      have hlk3 : (k3 : Int) < (B.sounds.length : Int) := by omega
                      have hxa : (wr3.alloc (.cells #[i64 B.sounds[k3].hour, i64 B.sounds[k3].shore, i64 B.sounds[k3].deep] 70)).heap[w.heap.size]? = some (.cells (bookCells B ta tc sa sc) 30 (0, 0)) := (Below.heap_alloc _ _ _ hxl).trans hxr4
                      cases h1 : hourB B B.sounds[k3].hour
                      · have g1 := Lib.hid h1
                        clear h1
                        go_wp2_with (first | (refine ld30 rfl _ rfl _ _ rfl hxa rfl ?_) | (go_at_call 86; refine (isHourR_any B ta tc sa sc _ _ htl).mono ?_; rintro e w2 ⟨rfl, hb2⟩; rw [g1.out]; have hy := (hb2.block wr3.heap.size (by simp)).trans (heap_alloc_new wr3 _); have hyc := cells_of hy; have hyl := (Array.getElem?_eq_some_iff.1 hy).1; have hbw4 := hbw3.trans ((((Below.refl _ wr3).alloc (Nat.le_refl _) _).trans (hb2.mono (by simp))).mono hbw3.size)))
                        go_roundw
                        case rel => first | exact ⟨k3 + 1, false, by omega, by go_num, rfl, hbw4, ⟨fun h => (by cases h), fun _ => bad_sound hlt3 (show soundOk B.tides.length B.sounds[k3] = false by unfold soundOk; rw [show inB B.sounds[k3].hour 0 ((B.tides.length : Int) - 1) = _ from g1.out]; rfl)⟩⟩ | ((repeat apply Exists.intro); refine ⟨?_, rfl⟩; exact ⟨k3 + 1, false, by omega, by go_num, rfl, hbw4, ⟨fun h => (by cases h), fun _ => bad_sound hlt3 (show soundOk B.tides.length B.sounds[k3] = false by unfold soundOk; rw [show inB B.sounds[k3].hour 0 ((B.tides.length : Int) - 1) = _ from g1.out]; rfl)⟩⟩)
                        case measure => simp [intOf]; omega
                      · skip
                        cases h2 : inB B.sounds[k3].shore 0 1
                        · have g1 := Lib.hid h1
                          have g2 := Lib.hid h2
                          clear h1 h2
                          go_wp2_with (first | (refine ld30 rfl _ rfl _ _ rfl hxa rfl ?_) | (go_at_call 86; refine (isHourR_any B ta tc sa sc _ _ htl).mono ?_; rintro e w2 ⟨rfl, hb2⟩; rw [g1.out]; have hy := (hb2.block wr3.heap.size (by simp)).trans (heap_alloc_new wr3 _); have hyc := cells_of hy; have hyl := (Array.getElem?_eq_some_iff.1 hy).1; have hbw4 := hbw3.trans ((((Below.refl _ wr3).alloc (Nat.le_refl _) _).trans (hb2.mono (by simp))).mono hbw3.size)) | (go_at_call 87; refine (isShoreR_any _ _).mono ?_; rintro e w' ⟨rfl, rfl⟩; rw [g2.out]))
                          go_roundw
                          case rel => first | exact ⟨k3 + 1, false, by omega, by go_num, rfl, hbw4, ⟨fun h => (by cases h), fun _ => bad_sound hlt3 (show soundOk B.tides.length B.sounds[k3] = false by unfold soundOk; rw [show inB B.sounds[k3].hour 0 ((B.tides.length : Int) - 1) = _ from g1.out, g2.out]; rfl)⟩⟩ | ((repeat apply Exists.intro); refine ⟨?_, rfl⟩; exact ⟨k3 + 1, false, by omega, by go_num, rfl, hbw4, ⟨fun h => (by cases h), fun _ => bad_sound hlt3 (show soundOk B.tides.length B.sounds[k3] = false by unfold soundOk; rw [show inB B.sounds[k3].hour 0 ((B.tides.length : Int) - 1) = _ from g1.out, g2.out]; rfl)⟩⟩)
                          case measure => simp [intOf]; omega
                        · skip
                          cases h3 : inB B.sounds[k3].deep 0 120
                          · have g1 := Lib.hid h1
                            have g2 := Lib.hid h2
                            have g3 := Lib.hid h3
                            clear h1 h2 h3
                            go_wp2_with (first | (refine ld30 rfl _ rfl _ _ rfl hxa rfl ?_) | (go_at_call 86; refine (isHourR_any B ta tc sa sc _ _ htl).mono ?_; rintro e w2 ⟨rfl, hb2⟩; rw [g1.out]; have hy := (hb2.block wr3.heap.size (by simp)).trans (heap_alloc_new wr3 _); have hyc := cells_of hy; have hyl := (Array.getElem?_eq_some_iff.1 hy).1; have hbw4 := hbw3.trans ((((Below.refl _ wr3).alloc (Nat.le_refl _) _).trans (hb2.mono (by simp))).mono hbw3.size)) | (go_at_call 87; refine (isShoreR_any _ _).mono ?_; rintro e w' ⟨rfl, rfl⟩; rw [g2.out]) | (go_at_call 31; refine (inside_any _ _ _ _).mono ?_; rintro e w' ⟨rfl, rfl⟩; rw [g3.out]))
                            go_roundw
                            case rel => first | exact ⟨k3 + 1, false, by omega, by go_num, rfl, hbw4, ⟨fun h => (by cases h), fun _ => bad_sound hlt3 (show soundOk B.tides.length B.sounds[k3] = false by unfold soundOk; rw [show inB B.sounds[k3].hour 0 ((B.tides.length : Int) - 1) = _ from g1.out, g2.out, g3.out]; rfl)⟩⟩ | ((repeat apply Exists.intro); refine ⟨?_, rfl⟩; exact ⟨k3 + 1, false, by omega, by go_num, rfl, hbw4, ⟨fun h => (by cases h), fun _ => bad_sound hlt3 (show soundOk B.tides.length B.sounds[k3] = false by unfold soundOk; rw [show inB B.sounds[k3].hour 0 ((B.tides.length : Int) - 1) = _ from g1.out, g2.out, g3.out]; rfl)⟩⟩)
                            case measure => simp [intOf]; omega
                          · have g1 := Lib.hid h1
                            have g2 := Lib.hid h2
                            have g3 := Lib.hid h3
                            clear h1 h2 h3
                            go_wp2_with (first | (refine ld30 rfl _ rfl _ _ rfl hxa rfl ?_) | (go_at_call 86; refine (isHourR_any B ta tc sa sc _ _ htl).mono ?_; rintro e w2 ⟨rfl, hb2⟩; rw [g1.out]; have hy := (hb2.block wr3.heap.size (by simp)).trans (heap_alloc_new wr3 _); have hyc := cells_of hy; have hyl := (Array.getElem?_eq_some_iff.1 hy).1; have hbw4 := hbw3.trans ((((Below.refl _ wr3).alloc (Nat.le_refl _) _).trans (hb2.mono (by simp))).mono hbw3.size)) | (go_at_call 87; refine (isShoreR_any _ _).mono ?_; rintro e w' ⟨rfl, rfl⟩; rw [g2.out]) | (go_at_call 31; refine (inside_any _ _ _ _).mono ?_; rintro e w' ⟨rfl, rfl⟩; rw [g3.out]))
                            go_roundw
                            case rel => first | exact ⟨k3 + 1, true, by omega, by go_num, rfl, hbw4, ⟨fun _ => takeS_all B k3 hlt3 hIt.out (show soundOk B.tides.length B.sounds[k3] = true by unfold soundOk; rw [show inB B.sounds[k3].hour 0 ((B.tides.length : Int) - 1) = _ from g1.out, g2.out, g3.out]; rfl), fun h => by cases h⟩⟩ | ((repeat apply Exists.intro); refine ⟨?_, rfl⟩; exact ⟨k3 + 1, true, by omega, by go_num, rfl, hbw4, ⟨fun _ => takeS_all B k3 hlt3 hIt.out (show soundOk B.tides.length B.sounds[k3] = true by unfold soundOk; rw [show inB B.sounds[k3].hour 0 ((B.tides.length : Int) - 1) = _ from g1.out, g2.out, g3.out]; rfl), fun h => by cases h⟩⟩)
                            case measure => simp [intOf]; omega
                    · have hlk3 : ¬ (k3 : Int) < (B.sounds.length : Int) := by omega
                      have hC : Hid (checkE B = 0) := Lib.hid (by
                        have := good_all hI1.out.1 (fun j hj => hI1.out.2 j hj hj) (hI2.out.1 (by omega)) (hI2.out.2 (by omega)) (fun j hj => hIt.out j hj (by omega))
                        simp [checkE, this])
                      go_wp2_with fail
                      go_ret
                      exact ⟨by rw [hC.out]; rfl, hbk3⟩
end Go.Proofs.YtkbmpkdflgimmaaDoor
