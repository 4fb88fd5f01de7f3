/- The contract of sound: whether a book is valid. -/
import Derived.Test.YtkbmpkdflgimmaaDoorMoor2
namespace Go.Proofs.YtkbmpkdflgimmaaDoor
open Go.RowKit Go.Shelf

/-- What a valid shore is. -/
structure ShV (x : Shore) : Prop where
  fl : -40 ≤ x.fl
  ff : x.fl ≤ x.fh
  fh : x.fh ≤ 80
  fn : x.fh - x.fl ≤ 4
  lo : -40 ≤ x.lo
  lh : x.lo ≤ x.hi
  hi : x.hi ≤ 80
/-- What a valid book is. -/
structure Vld (B : Book) : Prop where
  h1 : 1 ≤ B.tides.length
  h24 : B.tides.length ≤ 24
  e0 : 0 ≤ B.el
  ee : B.el ≤ B.eh
  e40 : B.eh ≤ 40
  e4 : B.eh - B.el ≤ 4
  k1 : 1 ≤ B.sink
  k20 : B.sink ≤ 20
  u0 : 0 ≤ B.under
  u10 : B.under ≤ 10
  s6 : B.sounds.length ≤ 6
  tides : ∀ t ∈ B.tides, -40 ≤ t.lo ∧ t.lo ≤ t.hi ∧ t.hi ≤ 80 ∧ t.hi - t.lo ≤ 4
  sh0 : ShV B.s0
  sh1 : ShV B.s1
  sounds : ∀ y ∈ B.sounds, (0 ≤ y.hour ∧ y.hour ≤ (B.tides.length : Int) - 1) ∧ (0 ≤ y.shore ∧ y.shore ≤ 1) ∧ 0 ≤ y.deep ∧ y.deep ≤ 120
theorem valid_iff {B : Book} : B.valid = true ↔ Vld B := by
  constructor
  · intro h
    simp [Book.valid, hdrB, inB, spanB, shoreOk, spanOk, soundOk, List.all_eq_true] at h
    obtain ⟨⟨⟨⟨⟨⟨a1, a2⟩, ⟨b1, b2, b3, b4⟩, ⟨c1, c2⟩, ⟨d1, d2⟩, e⟩, ht⟩, ⟨⟨f1, f2, f3, f4⟩, ⟨g1, g2⟩, g3⟩⟩, ⟨⟨i1, i2, i3, i4⟩, ⟨j1, j2⟩, j3⟩⟩, hs⟩ := h
    refine ⟨by omega, by omega, by omega, by omega, by omega, by omega, by omega, by omega, by omega, by omega, by omega, fun t ht' => ?_, ⟨by omega, by omega, by omega, by omega, by omega, by omega, by omega⟩, ⟨by omega, by omega, by omega, by omega, by omega, by omega, by omega⟩, fun y hy => ?_⟩
    · have := ht t ht'
      omega
    · have := hs y hy
      omega
  · intro h
    have h1 := h.h1
    have h2 := h.h24
    have h3 := h.s6
    simp only [Book.valid, hdrB, inB, spanB, shoreOk, spanOk, soundOk, List.all_eq_true, Bool.and_eq_true, decide_eq_true_eq]
    refine ⟨⟨⟨⟨⟨⟨by omega, by omega⟩, ⟨h.e0, h.ee, h.e40, h.e4⟩, ⟨h.k1, h.k20⟩, ⟨h.u0, h.u10⟩, by omega⟩, fun t ht => ?_⟩, ⟨⟨h.sh0.fl, h.sh0.ff, h.sh0.fh, h.sh0.fn⟩, ⟨h.sh0.lo, h.sh0.lh⟩, h.sh0.hi⟩⟩, ⟨⟨h.sh1.fl, h.sh1.ff, h.sh1.fh, h.sh1.fn⟩, ⟨h.sh1.lo, h.sh1.lh⟩, h.sh1.hi⟩⟩, fun y hy => ?_⟩
    · have := h.tides t ht
      exact ⟨this.1, this.2.1, this.2.2.1, this.2.2.2⟩
    · obtain ⟨⟨a, b⟩, ⟨c, d⟩, e, f⟩ := h.sounds y hy
      exact ⟨⟨a, b⟩, ⟨c, d⟩, e, f⟩
def validB (a b lo hi : Int) : Bool := decide (lo ≤ a) && (decide (a ≤ b) && decide (b ≤ hi))
theorem valid24_any (a b lo hi : Int) (w : World) : Calls Tryd.prog 68 #[.agg #[i64 a, i64 b], i64 lo, i64 hi] w fun e w' => e = .returned (.bool (validB a b lo hi)) ∧ Below w.heap.size w w' := by
  by_cases h1 : lo ≤ a
  · by_cases h2 : a ≤ b
    · have h := Lib.hid (show validB a b lo hi = decide (b ≤ hi) by simp [validB, h1, h2])
      go_enter Tryd.func68, Tryd.ntmps68
      go_wp2
      go_ret
      exact ⟨by rw [h.out]; rfl, (Below.refl _ _).alloc (Nat.le_refl _) _⟩
    · have h := Lib.hid (show validB a b lo hi = false by simp [validB, h2])
      have h2' : b < a := by omega
      go_enter Tryd.func68, Tryd.ntmps68
      go_wp2
      go_ret
      exact ⟨by rw [h.out]; rfl, (Below.refl _ _).alloc (Nat.le_refl _) _⟩
  · have h := Lib.hid (show validB a b lo hi = false by simp [validB, h1])
    have h1' : a < lo := by omega
    go_enter Tryd.func68, Tryd.ntmps68
    go_wp2
    go_ret
    exact ⟨by rw [h.out]; rfl, (Below.refl _ _).alloc (Nat.le_refl _) _⟩
theorem validB_true {a b lo hi : Int} (h1 : lo ≤ a) (h2 : a ≤ b) (h3 : b ≤ hi) : validB a b lo hi = true := by simp [validB, h1, h2, h3]
theorem inB_true {n lo hi : Int} (h1 : lo ≤ n) (h2 : n ≤ hi) : inB n lo hi = true := by simp [inB, h1, h2]
def SoundPost (B : Book) (w : World) (e : Ending) (w' : World) : Prop := e = .returned (.bool B.valid) ∧ Below w.heap.size w w'
set_option maxRecDepth 100000 in
set_option maxHeartbeats 4000000 in
theorem sound_bad (B : Book) (tb tq : Nat) (ta : Option Addr) (tc : Nat) (sb sq : Nat) (sa : Option Addr) (sc : Nat) (w : World) (hT : SpansAt w.heap.size w tb tq ta B.tides) (hS : SoundsAt w.heap.size w sb sq sa B.sounds) (hv : B.valid = false) :
    Calls Tryd.prog 21 #[bookVal B ta tc sa sc] w (SoundPost B w) := by
  have hb0 : Below w.heap.size w (w.alloc (.cells (bookCells B ta tc sa sc) 30)) := (Below.refl _ w).alloc (Nat.le_refl _) _
  have hx0 : (w.alloc (.cells (bookCells B ta tc sa sc) 30)).heap[w.heap.size]? = some (.cells (bookCells B ta tc sa sc) 30 (0, 0)) := heap_alloc_new w _
  have hC : Hid (checkE B = 20) := Lib.hid (by simp [checkE, hv])
  have hv := Lib.hid hv
  go_enter Tryd.func21, Tryd.ntmps21
  go_wp2_with (first | (refine ld30 rfl _ rfl _ _ rfl hx0 rfl ?_) | (go_at_call 43; refine (check_any B _ _ _ _ _ _ _ _ _ ((hT.same (Same.of_below hb0)).up hb0.size) ((hS.same (Same.of_below hb0)).up hb0.size)).mono ?_; rintro e w1 ⟨rfl, hb⟩; rw [hC.out]))
  refine wp_loop_rounds 1 ?_
  rw [rounds_succ]
  go_wp2_with fail
  refine wp_loop_rounds 1 ?_
  rw [rounds_succ]
  go_wp2_with fail
  refine wp_loop_rounds 1 ?_
  rw [rounds_succ]
  go_wp2_with fail
  go_ret
  exact ⟨by rw [hv.out]; rfl, hb0.trans (hb.mono hb0.size)⟩
set_option maxRecDepth 100000 in
set_option maxHeartbeats 4000000 in
theorem sound_good (B : Book) (tb tq : Nat) (ta : Option Addr) (tc : Nat) (sb sq : Nat) (sa : Option Addr) (sc : Nat) (w : World) (hT : SpansAt w.heap.size w tb tq ta B.tides) (hS : SoundsAt w.heap.size w sb sq sa B.sounds) (hv : B.valid = true) :
    Calls Tryd.prog 21 #[bookVal B ta tc sa sc] w (SoundPost B w) := by
  have hb0 : Below w.heap.size w (w.alloc (.cells (bookCells B ta tc sa sc) 30)) := (Below.refl _ w).alloc (Nat.le_refl _) _
  have hx0 : (w.alloc (.cells (bookCells B ta tc sa sc) 30)).heap[w.heap.size]? = some (.cells (bookCells B ta tc sa sc) 30 (0, 0)) := heap_alloc_new w _
  have hC : Hid (checkE B = 0) := Lib.hid (by simp [checkE, hv])
  have hV := valid_iff.1 hv
  have hv := Lib.hid hv
  have h1 := hV.h1
  have h24 := hV.h24
  have hs6 := hV.s6
  have i1 := Lib.hid (inB_true (n := (B.tides.length : Int)) (lo := 1) (hi := 24) (by omega) (by omega))
  have i2 := Lib.hid (validB_true hV.e0 hV.ee hV.e40)
  have i3 := Lib.hid (inB_true hV.k1 hV.k20)
  have i4 := Lib.hid (inB_true hV.u0 hV.u10)
  have i5 := Lib.hid (validB_true hV.sh0.fl hV.sh0.ff hV.sh0.fh)
  have i6 := Lib.hid (validB_true hV.sh1.fl hV.sh1.ff hV.sh1.fh)
  have i7 := Lib.hid (inB_true hV.sh0.lo hV.sh0.lh)
  have i8 := Lib.hid (inB_true hV.sh1.lo hV.sh1.lh)
  have hs6' : decide ((B.sounds.length : Int) ≤ 6) = true := decide_eq_true (by omega)
  have j0 := hV.sh0.hi
  have j1 := hV.sh1.hi
  go_enter Tryd.func21, Tryd.ntmps21
  go_wp2_with (first | (refine ld30 rfl _ rfl _ _ rfl hx0 rfl ?_) | (go_at_call 43; refine (check_any B _ _ _ _ _ _ _ _ _ ((hT.same (Same.of_below hb0)).up hb0.size) ((hS.same (Same.of_below hb0)).up hb0.size)).mono ?_; rintro e w1 ⟨rfl, hb⟩; rw [hC.out]; have hx1 := (hb.block _ (by simp)).trans hx0; have hxc := cells_of hx1; have hxl := (Array.getElem?_eq_some_iff.1 hx1).1; have hba := hb0.trans (hb.mono hb0.size)) | (go_at_call 31; (with_reducible refine (inside_any _ _ _ _).mono ?_); rintro e w' ⟨rfl, rfl⟩; first | rw [i1.out] | rw [i3.out] | rw [i4.out]) | (go_at_call 68; refine (valid24_any _ _ _ _ _).mono ?_; rintro e w2 ⟨rfl, hb2⟩; rw [i2.out]; have hx2 := (hb2.block _ hxl).trans hx1; have hxc2 := cells_of hx2; have hxl2 := (Array.getElem?_eq_some_iff.1 hx2).1; have hbb := hba.trans (hb2.mono hba.size)))
  refine abs_world (fun W => Below w.heap.size w W ∧ W.heap[w.heap.size]? = some (.cells (bookCells B ta tc sa sc) 30 (0, 0))) ⟨hbb, hx2⟩ ?_
  clear hbb hx2 hxc2 hxl2 hb2 hx1 hxc hxl hba hb hx0 hb0
  rintro W2 ⟨hbb, hx2⟩
  go_loopw [4, 3] (fun i ok wr => ∃ k : Nat, k ≤ B.tides.length ∧ i = .int .i64 k ∧ ok = .bool true ∧ Below W2.heap.size W2 wr) (fun i _ _ => B.tides.length - (intOf i).toNat)
  case atStart => exact ⟨0, Nat.zero_le _, rfl, rfl, Below.refl _ _⟩
  case round =>
    obtain ⟨k, hk, rfl, rfl, hbw⟩ := hrel
    have hxr := (hbw.block _ (Array.getElem?_eq_some_iff.1 hx2).1).trans hx2
    have hxc := cells_of hxr
    have hxl := (Array.getElem?_eq_some_iff.1 hxr).1
    have hbk := hbb.trans (hbw.mono hbb.size)
    by_cases hlt : k < B.tides.length
    · have hT1 := (hT.same (Same.of_below hbk))
      have hidx := fun W => idx22 (n := B.tides.length) (c := tc) (k := k) W (hT1.at_ (ne_nil_of_lt hlt)) hlt
      have hc1 := hT1.lo k hlt
      have hc2 := hT1.hi k hlt
      have hlk : (k : Int) < (B.tides.length : Int) := by omega
      obtain ⟨t1, t2, t3, _⟩ := hV.tides _ (List.getElem_mem hlt)
      have it := Lib.hid (validB_true t1 t2 t3)
      clear t1 t2 t3
      go_wp2_with (go_at_call 68; refine (valid24_any _ _ _ _ _).mono ?_; rintro e w2 ⟨rfl, hb2⟩; rw [it.out]; have hbw2 := hbw.trans (hb2.mono hbw.size))
      go_roundw
      case rel => exact ⟨k + 1, by omega, by go_num, rfl, hbw2⟩
      case measure => simp [intOf]; omega
    · have hlk : ¬ (k : Int) < (B.tides.length : Int) := by omega
      go_wp2_with fail
      obtain ⟨W3, rfl⟩ : ∃ W3 : World, W3 = wr := ⟨_, rfl⟩
      go_loopw [5, 3] (fun i ok wr2 => ∃ k : Nat, k ≤ 2 ∧ i = .int .i64 k ∧ ok = .bool true ∧ Below W3.heap.size W3 wr2) (fun i _ _ => 2 - (intOf i).toNat)
      case atStart => exact ⟨0, Nat.zero_le _, rfl, rfl, Below.refl _ _⟩
      case round =>
        obtain ⟨k2, hk2, rfl, rfl, hbw2⟩ := hrel
        obtain ⟨wr2, rfl⟩ : ∃ wr2 : World, wr2 = wr := ⟨_, rfl⟩
        have hxr := (hbw2.block _ hxl).trans hxr
        have hxc := cells_of hxr
        have hxl := (Array.getElem?_eq_some_iff.1 hxr).1
        have hbk2 := hbk.trans (hbw2.mono hbk.size)
        rcases (by omega : k2 = 0 ∨ k2 = 1 ∨ k2 = 2) with rfl | rfl | rfl
        · go_wp2_with (first | (go_at_call 68; refine (valid24_any _ _ _ _ _).mono ?_; rintro e w2 ⟨rfl, hb2⟩; rw [i5.out]; have hy := (hb2.block wr2.heap.size (by simp)).trans (heap_alloc_new wr2 _); have hyc := cells_of hy; have hyl := (Array.getElem?_eq_some_iff.1 hy).1; have hbw3 := hbw2.trans ((((Below.refl _ wr2).alloc (Nat.le_refl _) _).trans (hb2.mono (by simp))).mono hbw2.size)) | (go_at_call 31; (with_reducible refine (inside_any _ _ _ _).mono ?_); rintro e w' ⟨rfl, rfl⟩; rw [i7.out]))
          go_roundw
          case rel => exact ⟨1, by omega, by go_num, rfl, hbw3⟩
          case measure => simp [intOf]
        · go_wp2_with (first | (go_at_call 68; refine (valid24_any _ _ _ _ _).mono ?_; rintro e w2 ⟨rfl, hb2⟩; rw [i6.out]; have hy := (hb2.block wr2.heap.size (by simp)).trans (heap_alloc_new wr2 _); have hyc := cells_of hy; have hyl := (Array.getElem?_eq_some_iff.1 hy).1; have hbw3 := hbw2.trans ((((Below.refl _ wr2).alloc (Nat.le_refl _) _).trans (hb2.mono (by simp))).mono hbw2.size)) | (go_at_call 31; (with_reducible refine (inside_any _ _ _ _).mono ?_); rintro e w' ⟨rfl, rfl⟩; rw [i8.out]))
          go_roundw
          case rel => exact ⟨2, by omega, by go_num, rfl, hbw3⟩
          case measure => simp [intOf]
        · go_wp2_with fail
          go_loopw [7, 3] (fun i ok wr3 => ∃ k : Nat, k ≤ B.sounds.length ∧ i = .int .i64 k ∧ ok = .bool true ∧ Below wr2.heap.size wr2 wr3) (fun i _ _ => B.sounds.length - (intOf i).toNat)
          case atStart => exact ⟨0, Nat.zero_le _, rfl, rfl, Below.refl _ _⟩
          case round =>
            obtain ⟨k3, hk3, rfl, rfl, hbw3⟩ := hrel
            obtain ⟨wr3, rfl⟩ : ∃ wr3 : World, wr3 = wr := ⟨_, rfl⟩
            have hxr := (hbw3.block _ hxl).trans hxr
            have hxc := cells_of hxr
            have hxl := (Array.getElem?_eq_some_iff.1 hxr).1
            have hbk3 := hbk2.trans (hbw3.mono hbk2.size)
            by_cases hlt3 : k3 < B.sounds.length
            · have hS1 := (hS.same (Same.of_below hbk3))
              have hidx := fun W => idx28 (n := B.sounds.length) (c := sc) (k := k3) W (hS1.at_ (ne_nil_of_lt hlt3)) hlt3
              have hc1 := hS1.hour k3 hlt3
              have hc2 := hS1.shore k3 hlt3
              have hc3 := hS1.deep k3 hlt3
              have hlk3 : (k3 : Int) < (B.sounds.length : Int) := by omega
              obtain ⟨⟨t1, t2⟩, ⟨t3, t4⟩, _⟩ := hV.sounds _ (List.getElem_mem hlt3)
              have it := Lib.hid (inB_true t1 t2)
              have it2 := Lib.hid (inB_true t3 t4)
              clear t1 t2 t3 t4
              go_wp2_with (go_at_call 31; (with_reducible refine (inside_any _ _ _ _).mono ?_); rintro e w' ⟨rfl, rfl⟩; first | rw [it.out] | rw [it2.out])
              go_roundw
              case rel =>
                (repeat apply Exists.intro)
                refine ⟨?_, rfl⟩
                exact ⟨k3 + 1, by omega, by go_num, rfl, hbw3.alloc hbw3.size _⟩
              case measure => simp [intOf]; omega
            · have hlk3 : ¬ (k3 : Int) < (B.sounds.length : Int) := by omega
              go_wp2_with fail
              go_ret
              exact ⟨by rw [hv.out]; rfl, hbk3⟩
theorem sound_any (B : Book) (tb tq : Nat) (ta : Option Addr) (tc : Nat) (sb sq : Nat) (sa : Option Addr) (sc : Nat) (w : World) (hT : SpansAt w.heap.size w tb tq ta B.tides) (hS : SoundsAt w.heap.size w sb sq sa B.sounds) :
    Calls Tryd.prog 21 #[bookVal B ta tc sa sc] w (SoundPost B w) := by
  cases hv : B.valid
  · exact sound_bad B tb tq ta tc sb sq sa sc w hT hS hv
  · exact sound_good B tb tq ta tc sb sq sa sc w hT hS hv
theorem sound_v {W : World} {v : Value} {B : Book} (hB : BookV W v B) : Calls Tryd.prog 21 #[v] W (SoundPost B W) := by
  obtain ⟨tb, tq, ta, tc, sb, sq, sa, sc, rfl, hT, hS⟩ := hB
  exact sound_any B tb tq ta tc sb sq sa sc W hT hS
end Go.Proofs.YtkbmpkdflgimmaaDoor
