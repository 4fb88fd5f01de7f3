/- LandingTrue answers true of every book and of all numbers. (Printed by genltrue.py.) -/
import Derived.Test.YtkbmpkdflgimmaaDoorTrue5
namespace Go.Proofs.YtkbmpkdflgimmaaDoor
open Go.RowKit Go.Shelf

theorem box30z (w : World) (cs : Array Value) : Below w.heap.size w ((w.alloc (.cells zero30 30)).setRow w.heap.size cs) ∧ ((w.alloc (.cells zero30 30)).setRow w.heap.size cs).heap[w.heap.size]? = some (.cells cs 30 (0, 0)) :=
  ⟨(SetAt.row _ _ cs).below (Nat.le_refl _) ((Below.refl _ w).alloc (Nat.le_refl _) _), setRow_heap _ _ _ _ _ _ (heap_alloc_new w _)⟩
theorem box24v (w : World) (a b : Int) : Below w.heap.size w (w.alloc (.cells #[i64 a, i64 b] 24)) ∧ (w.alloc (.cells #[i64 a, i64 b] 24)).heap[w.heap.size]? = some (.cells #[i64 a, i64 b] 24 (0, 0)) :=
  ⟨(Below.refl _ w).alloc (Nat.le_refl _) _, heap_alloc_new w _⟩
/-- What the loop's rounds keep. -/
structure LtI (W7 : World) (pk pX : Nat) (la : Option Addr) (ll lc : Nat) (ld : Int) (c : Nat) (a : Act) (W : World) : Prop where
  size : a.tmps.size = 240
  defers : a.defers = []
  s6 : slotOf a 6 = .bool false
  s7 : slotOf a 7 = .pointer (some ⟨pk, 0, none⟩)
  s8 : slotOf a 8 = .pointer (some ⟨pX, 0, none⟩)
  s11 : slotOf a 11 = i64 ld
  s27 : slotOf a 27 = .slice la ll lc
  s29 : slotOf a 29 = i64 c
  hb : Below W7.heap.size W7 W
def rdLt11 (i : Nat) : List Nat := match i with
  | 0 => [82] | 1 => [83] | 2 => [84] | 3 => [85] | 4 => [86] | 5 => [87] | 6 => [88] | 7 => [89] | 8 => [90] | 9 => [91] | 10 => [92] | 11 => [93] | 12 => [94] | 13 => [95] | 14 => [96] | 15 => [97] | 16 => [98] | 17 => [99] | 18 => [100] | 19 => [101] | 20 => [102] | 21 => [103] | 22 => [104] | 23 => [105] | 24 => [106] | 25 => [107] | 26 => [108] | 27 => [109] | 28 => [110] | 29 => [111] | 30 => [112] | 31 => [113] | 32 => [114] | 33 => [115] | 34 => [116] | 35 => [117] | 36 => [118] | 37 => [119] | 38 => [120] | 39 => [121] | 40 => [122] | 41 => [123] | 42 => [124] | 43 => [125] | 44 => [126] | 45 => [127] | 46 => [128] | 47 => [129] | 48 => [130] | 49 => [131] | 50 => [132] | _ => []
def pureLt11 (i : Nat) : Bool := match i with
  | 34 => false | 43 => false | 48 => false | _ => true
def gLt11 (wa : Option Addr) (wc : Nat) (hs : List Int) (ha : Option Addr) (hc hlb hlo hr pk : Nat) (a b u v s hh ff k : Int) (i : Nat) (vs : List Value) (_ : World) : Prop := match i with
  | 0 => vs = [i64 0]
  | 1 => vs = [.bool false]
  | 2 => vs = [.bool false]
  | 3 => vs = [i64 0]
  | 4 => vs = [.bool false]
  | 5 => vs = [.bool false]
  | 6 => vs = [.bool false]
  | 7 => vs = [i64 0]
  | 8 => vs = [.bool false]
  | 9 => vs = [.bool false]
  | 10 => vs = [.bool false]
  | 11 => vs = [i64 0]
  | 12 => vs = [.bool false]
  | 13 => vs = [.bool false]
  | 14 => vs = [.bool false]
  | 15 => vs = [i64 0]
  | 16 => vs = [.bool false]
  | 17 => vs = [.bool false]
  | 18 => vs = [.bool false]
  | 19 => vs = [.bool true]
  | 20 => vs = [.bool false]
  | 21 => vs = [.bool false]
  | 22 => vs = [.bool false]
  | 23 => vs = [.slice wa 0 wc]
  | 24 => vs = [i64 0]
  | 25 => vs = [.bool false]
  | 26 => vs = [.bool false]
  | 27 => vs = [.bool false]
  | 28 => vs = [.agg #[i64 a, i64 b]]
  | 29 => vs = [.pointer (some ⟨pk, 0, none⟩)]
  | 30 => vs = [.slice ha hs.length hc]
  | 31 => vs = [i64 hr]
  | 32 => vs = [.pointer (some ⟨hlb, hlo + hr, none⟩)]
  | 33 => vs = [i64 hh]
  | 34 => vs = [.bool true]
  | 35 => vs = [.bool false]
  | 36 => vs = [.bool false]
  | 37 => vs = [.bool false]
  | 38 => vs = [.agg #[i64 u, i64 v]]
  | 39 => vs = [i64 s]
  | 40 => vs = [.pointer (some ⟨pk, 1, none⟩)]
  | 41 => vs = [.pointer (some ⟨pk, 1 + s.toNat, none⟩)]
  | 42 => vs = [i64 ff]
  | 43 => vs = [.bool true]
  | 44 => vs = [.bool false]
  | 45 => vs = [.bool false]
  | 46 => vs = [.bool false]
  | 47 => vs = [i64 k]
  | 48 => vs = [.bool true]
  | 49 => vs = [.bool false]
  | 50 => vs = [.bool false]
  | _ => True
def rdLt28 (i : Nat) : List Nat := match i with
  | 0 => [219] | 1 => [220] | 2 => [221] | 3 => [222] | 4 => [223] | 5 => [224] | 6 => [225] | 7 => [226] | 8 => [227] | 9 => [228] | 10 => [229] | 11 => [230] | 12 => [231] | 13 => [232] | 14 => [233] | 15 => [234] | 16 => [235] | 17 => [236] | 18 => [237] | 19 => [238] | _ => []
def pureLt28 (i : Nat) : Bool := match i with
  | 7 => false | 17 => false | _ => true
def gLt28 (X : Book) (xa : Option Addr) (xc : Nat) (ya : Option Addr) (yc : Nat) (hs : List Int) (ha : Option Addr) (hc : Nat) (fl0 fl1 em : Int) (la : Option Addr) (L : List Int) (lc lb lo c : Nat) (x ld : Int) (i : Nat) (vs : List Value) (_ : World) : Prop := match i with
  | 0 => vs = [.agg (bookCells X xa xc ya yc)]
  | 1 => vs = [.agg #[.slice ha hs.length hc, i64 fl0, i64 fl1, i64 em]]
  | 2 => vs = [.slice la L.length lc]
  | 3 => vs = [i64 c]
  | 4 => vs = [.pointer (some ⟨lb, lo + c, none⟩)]
  | 5 => vs = [i64 x]
  | 6 => vs = [i64 ld]
  | 7 => vs = [.bool true]
  | 8 => vs = [.bool false]
  | 9 => vs = [.bool false]
  | 10 => vs = [.agg (bookCells X xa xc ya yc)]
  | 11 => vs = [.agg #[.slice ha hs.length hc, i64 fl0, i64 fl1, i64 em]]
  | 12 => vs = [.slice la L.length lc]
  | 13 => vs = [i64 c]
  | 14 => vs = [.pointer (some ⟨lb, lo + c, none⟩)]
  | 15 => vs = [i64 x]
  | 16 => vs = [i64 ld]
  | 17 => vs = [.bool true]
  | 18 => vs = [.bool false]
  | 19 => vs = [.bool false]
  | _ => True
set_option maxRecDepth 100000 in
set_option maxHeartbeats 8000000 in
theorem LTrue_any (B : Book) (tb tq : Nat) (ta : Option Addr) (tc : Nat) (sb sq : Nat) (sa : Option Addr) (sc : Nat) (lv : Value) (bits : List Int) (n0 n1 n2 : Int) (w : World) (hG : GA w) (hT : SpansAt w.heap.size w tb tq ta B.tides) (hS : SoundsAt w.heap.size w sb sq sa B.sounds) (hL : ListV w lv bits) :
    Calls Tryd.prog 6 #[bookVal B ta tc sa sc, lv, .agg #[i64 n0, i64 n1, i64 n2]] w (MoorPost w) := by
  have hb0 : Below w.heap.size w ((w.alloc (.cells (bookCells B ta tc sa sc) 30)).alloc (.cells #[i64 n0, i64 n1, i64 n2] 37)) := ((Below.refl _ w).alloc (Nat.le_refl _) _).alloc (by simp) _
  have hx0 : ((w.alloc (.cells (bookCells B ta tc sa sc) 30)).alloc (.cells #[i64 n0, i64 n1, i64 n2] 37)).heap[w.heap.size]? = some (.cells (bookCells B ta tc sa sc) 30 (0, 0)) := (Below.heap_alloc _ _ _ (by simp)).trans (heap_alloc_new w _)
  have hn0 : ((w.alloc (.cells (bookCells B ta tc sa sc) 30)).alloc (.cells #[i64 n0, i64 n1, i64 n2] 37)).heap[w.heap.size + 1]? = some (.cells #[i64 n0, i64 n1, i64 n2] 37 (0, 0)) := heap_alloc2_new w _ _
  have hB : BookV w (bookVal B ta tc sa sc) B := ⟨tb, tq, ta, tc, sb, sq, sa, sc, rfl, hT, hS⟩
  have hB0 := hB.below hb0
  have hL0 := hL.below hb0
  have hG0 := hG.below hb0
  have ha0 := hb0
  clear hB hL hG hb0
  cases hv : B.valid
  · have hv := Lib.hid hv
    go_enter Tryd.func6, Tryd.ntmps6
    go_wp2_with (refine ld30 rfl _ rfl _ _ rfl hx0 rfl ?_)
    refine (sound_v hB0).mono ?_
    rintro e w1 ⟨rfl, hb1⟩
    rw [hv.out]
    have ha1 := ha0.trans (hb1.mono ha0.size)
    clear hx0 hn0
    go_wp2_with fail
    refine (moored_any _ (hG0.below hb1)).mono ?_
    rintro e w2 ⟨rfl, hb2⟩
    have ha2 := ha1.trans (hb2.mono ha1.size)
    go_wp2_with fail
    go_ret
    exact ⟨rfl, ha2⟩
  · have hV := valid_iff.1 hv
    have h1 := hV.h1
    have h24 := hV.h24
    have hs' := modI_lt (n := n0) (m := 2) (by decide)
    have hh := modI_lt (n := n1) (m := B.tides.length) (by omega)
    have hl := modI_lt (n := n2) (m := 201) (by decide)
    have q : Qs B (modI n0 2) (modI n1 B.tides.length) (modI n2 201) := ⟨hs'.1, by omega, hh.1, hh.2, hl.1, by omega⟩
    obtain ⟨s, he1⟩ : ∃ s, modI n0 2 = s := ⟨_, rfl⟩
    obtain ⟨hr, he2⟩ : ∃ hr : Nat, modI n1 B.tides.length = hr := ⟨(modI n1 B.tides.length).toNat, by omega⟩
    obtain ⟨ld, he3⟩ : ∃ ld, modI n2 201 = ld := ⟨_, rfl⟩
    rw [he1, he2, he3] at q
    have hv := Lib.hid hv
    have M0 := fun W => mod_back n0 2 (by decide) W
    have M1 := fun W => mod_back n1 B.tides.length (by omega) W
    have M2 := fun W => mod_back n2 201 (by decide) W
    rw [he1] at M0
    rw [he2] at M1
    rw [he3] at M2
    clear hs' hh hl he1 he2 he3
    go_enter Tryd.func6, Tryd.ntmps6
    go_wp2_with (refine ld30 rfl _ rfl _ _ rfl hx0 rfl ?_)
    refine (sound_v hB0).mono ?_
    rintro e w1 ⟨rfl, hb1⟩
    rw [hv.out]
    have hx1 := (hb1.block _ (Array.getElem?_eq_some_iff.1 hx0).1).trans hx0
    have hn1 := (hb1.block _ (Array.getElem?_eq_some_iff.1 hn0).1).trans hn0
    have hB1 := hB0.below hb1
    have hL1 := hL0.below hb1
    have hG1 := hG0.below hb1
    have ha1 := ha0.trans (hb1.mono ha0.size)
    clear hx0 hn0 hB0 hL0 hG0 ha0
    clear hb1
    go_wp2_with (refine ld30 rfl _ rfl _ _ rfl hx1 rfl ?_)
    refine (truly_t hB1 hL1 hV).mono ?_
    rintro e w2 ⟨hv2, hs, fl0, fl1, em, rfl, hb2, hH2, hTr⟩
    have hx2 := (hb2.block _ (Array.getElem?_eq_some_iff.1 hx1).1).trans hx1
    have hn2 := (hb2.block _ (Array.getElem?_eq_some_iff.1 hn1).1).trans hn1
    have hB2 := hB1.below hb2
    have hL2 := hL1.below hb2
    have hG2 := hG1.below hb2
    have ha2 := ha1.trans (hb2.mono ha1.size)
    clear hx1 hn1 hB1 hL1 hG1 ha1
    clear hb2
    obtain ⟨hlb, hlo, ha, hc, rfl, hlc, hHI2⟩ := hH2
    have hH2 : ListV w2 (.slice ha hs.length hc) hs := ⟨hlb, hlo, ha, hc, rfl, hlc, hHI2⟩
    have hlaw := true_law hTr hV q
    obtain ⟨r0, r1, re⟩ := hTr.rf hV
    have hlenH := Lib.hid hTr.len
    have hrl : hr < hs.length := by have := hTr.len; have := q.h1; omega
    clear hHI2
    obtain ⟨hb3, hk3⟩ := box43 w2 (.slice ha hs.length hc) fl0 fl1 em
    have hx3 := (hb3.block _ (Array.getElem?_eq_some_iff.1 hx2).1).trans hx2
    have hn3 := (hb3.block _ (Array.getElem?_eq_some_iff.1 hn2).1).trans hn2
    have hB3 := hB2.below hb3
    have hL3 := hL2.below hb3
    have hH3 := hH2.below hb3
    have hG3 := hG2.below hb3
    have ha3 := ha2.trans (hb3.mono ha2.size)
    clear hx2 hn2 hB2 hL2 hH2 hG2 ha2
    clear hb3
    go_wp2_with (first | (refine ld30 rfl _ rfl _ _ rfl hx3 rfl ?_) | (refine ld43 rfl _ rfl _ _ rfl hk3 rfl ?_))
    refine (rightly_v hB3 hH3 hV hTr).mono ?_
    rintro e w4 ⟨v4, rfl, hb4, hX4⟩
    have hx4 := (hb4.block _ (Array.getElem?_eq_some_iff.1 hx3).1).trans hx3
    have hn4 := (hb4.block _ (Array.getElem?_eq_some_iff.1 hn3).1).trans hn3
    have hk4 := (hb4.block _ (Array.getElem?_eq_some_iff.1 hk3).1).trans hk3
    have hB4 := hB3.below hb4
    have hL4 := hL3.below hb4
    have hH4 := hH3.below hb4
    have hG4 := hG3.below hb4
    have ha4 := ha3.trans (hb4.mono ha3.size)
    clear hx3 hn3 hk3 hB3 hL3 hH3 hG3 ha3
    clear hb4
    obtain ⟨xb, xq, xa, xc, yb, yq, ya, yc, rfl, hXT, hXS⟩ := hX4
    have hC4 : BookV w4 (bookVal (rightS B hs (fl0, fl1)) xa xc ya yc) (rightS B hs (fl0, fl1)) := ⟨xb, xq, xa, xc, yb, yq, ya, yc, rfl, hXT, hXS⟩
    have hXs := (right_valid (hs := hs) (f := (fl0, fl1)) hV).sane
    obtain ⟨X, hXe⟩ : ∃ X, rightS B hs (fl0, fl1) = X := ⟨_, rfl⟩
    rw [hXe] at hC4 hlaw hXs ⊢
    have hz4 := heap_alloc_new w4 (.cells zero30 30)
    clear hXe hXT hXS hTr hV
    obtain ⟨hb5, hX5⟩ := box30z w4 (bookCells X xa xc ya yc)
    have hx5 := (hb5.block _ (Array.getElem?_eq_some_iff.1 hx4).1).trans hx4
    have hn5 := (hb5.block _ (Array.getElem?_eq_some_iff.1 hn4).1).trans hn4
    have hk5 := (hb5.block _ (Array.getElem?_eq_some_iff.1 hk4).1).trans hk4
    have hB5 := hB4.below hb5
    have hL5 := hL4.below hb5
    have hH5 := hH4.below hb5
    have hC5 := hC4.below hb5
    have hG5 := hG4.below hb5
    have ha5 := ha4.trans (hb5.mono ha4.size)
    clear hx4 hn4 hk4 hB4 hL4 hH4 hC4 hG4 ha4
    clear hb5
    have hAf : ∀ (W : World), BookV W (bookVal X xa xc ya yc) X → ListV W (.slice ha hs.length hc) hs → ∀ s hr ld : Int, (s = 0 ∨ s = 1) → 0 ≤ hr → hr < B.tides.length → 0 ≤ ld → ld ≤ 200 → Calls Tryd.prog 32 #[bookVal X xa xc ya yc, .agg #[.slice ha hs.length hc, i64 fl0, i64 fl1, i64 em], i64 s, i64 hr, i64 ld] W (SomePost (aflB X hs (fl0, fl1) em s hr ld) W) :=
      fun W h1 h2 s hr ld g1 g2 g3 g4 g5 => afloat_v h1 h2 hXs r0 r1 re g1 g2 (by have := hlenH.out; omega) g4 (by omega)
    go_wp2_with (refine st30 rfl _ _ rfl _ (bookCells X xa xc ya yc) zero30 rfl rfl hz4 rfl rfl (by simp [Value.oneCell']) ?_)
    obtain ⟨w5, hw5⟩ : ∃ w5, ((w4.alloc (.cells zero30 30)).setRow w4.heap.size (bookCells X xa xc ya yc)) = w5 := ⟨_, rfl⟩
    obtain ⟨pk, hpk⟩ : ∃ pk, w2.heap.size = pk := ⟨_, rfl⟩
    obtain ⟨pX, hpX⟩ : ∃ pX, w4.heap.size = pX := ⟨_, rfl⟩
    rw [hw5] at hx5 hn5 hk5 hX5 hB5 hL5 hH5 hC5 hG5 ha5 ⊢
    rw [hpk] at hk5 ⊢
    rw [hpX] at hX5 ⊢
    have hnc := cells_of hn5
    have hnl := (Array.getElem?_eq_some_iff.1 hn5).1
    have hxc := cells_of hx5
    have hxl := (Array.getElem?_eq_some_iff.1 hx5).1
    clear hw5 hpk hpX hz4
    go_quiet ((go_at_call 24; first | with_reducible exact Calls.quiet_of_same (M0 _) | with_reducible exact Calls.quiet_of_same (M1 _) | with_reducible exact Calls.quiet_of_same (M2 _)))
    refine abs_act (fun W => Below w.heap.size w W ∧ W.heap[w.heap.size]? = some (.cells (bookCells B ta tc sa sc) 30 (0, 0)) ∧ W.heap[pk]? = some (.cells #[.slice ha hs.length hc, i64 fl0, i64 fl1, i64 em] 43 (0, 0)) ∧ W.heap[pX]? = some (.cells (bookCells X xa xc ya yc) 30 (0, 0)) ∧ GA W ∧ BookV W (bookVal B ta tc sa sc) B ∧ BookV W (bookVal X xa xc ya yc) X ∧ ListV W (.slice ha hs.length hc) hs) ⟨ha5.trans (drewN_below ha5.size _), hx5, hk5, hX5, hG5.below (drewN_below (Nat.le_refl _) _), hB5.below (drewN_below (Nat.le_refl _) _), hC5.below (drewN_below (Nat.le_refl _) _), hH5.below (drewN_below (Nat.le_refl _) _)⟩ ?_
    clear hx5 hn5 hk5 hX5 hB5 hL5 hH5 hC5 hG5 ha5 hnc hnl hxc hxl M0 M1 M2
    rintro w6 ⟨ha6, hx6, hk6, hX6, hG6, hB6, hC6, hH6⟩
    obtain ⟨hRi, hWr, ⟨a, b, hHe, hIn⟩, ⟨u, v, hFl, hIn2⟩, ⟨k, hLa, hkr, hk2, hk0⟩, ⟨m, mi, hMo, hmc⟩, ⟨fi, ii, hFi, hfc⟩, ⟨L, hBo, hLr, hL2⟩⟩ := hlaw
    rw [Int.toNat_natCast] at hIn
    obtain ⟨hh, hhe⟩ : ∃ hh, Hid (hs[hr] = hh) := ⟨_, Lib.hid rfl⟩
    rw [show hs.getD hr 0 = hh by rw [List.getD_eq_getElem?_getD, List.getElem?_eq_getElem hrl]; exact hhe.out] at hIn
    have hss : s = 0 ∨ s = 1 := by have := q.s0; have := q.s1; omega
    obtain ⟨ff, hffe⟩ : ∃ ff, fAt s (fl0, fl1) = ff := ⟨_, rfl⟩
    have hff : (#[.slice ha hs.length hc, i64 fl0, i64 fl1, i64 em] : Array Value)[1 + s.toNat]? = some (i64 ff) := by rw [← hffe]; rcases hss with rfl | rfl <;> rfl
    rw [hffe] at hIn2
    obtain ⟨lz, hlz⟩ : ∃ lz, aflB X hs (fl0, fl1) em s hr ld = lz := ⟨_, rfl⟩
    rw [hlz] at hk2 hk0
    have hIk := Lib.hid (inB_true hkr.1 hkr.2)
    have hIn := Lib.hid hIn
    have hIn2 := Lib.hid hIn2
    have hlz := Lib.hid hlz
    have hRi := Lib.hid hRi
    have hWr := Lib.hid hWr
    have hHe := Lib.hid hHe
    have hFl := Lib.hid hFl
    have hLa := Lib.hid hLa
    have hMo := Lib.hid hMo
    have hFi := Lib.hid hFi
    have hBo := Lib.hid hBo
    have hld0 := q.l0
    have hld1 := q.l1
    have hh0 := q.h0
    have hh1 := q.h1
    clear hffe q
    go_wp2_with (refine ld30 rfl _ rfl _ _ rfl hX6 rfl ?_)
    refine (right_v hG6 hC6).mono ?_
    rintro e w7 ⟨rfl, hb7⟩
    rw [hRi.out]
    have hx7 := (hb7.block _ (Array.getElem?_eq_some_iff.1 hx6).1).trans hx6
    have hk7 := (hb7.block _ (Array.getElem?_eq_some_iff.1 hk6).1).trans hk6
    have hX7 := (hb7.block _ (Array.getElem?_eq_some_iff.1 hX6).1).trans hX6
    have hB7 := hB6.below hb7
    have hC7 := hC6.below hb7
    have hH7 := hH6.below hb7
    have hG7 := hG6.below hb7
    have ha7 := ha6.trans (hb7.mono ha6.size)
    clear hx6 hk6 hX6 hB6 hC6 hH6 hG6 ha6
    clear hb7
    go_wp2_with (refine ld30 rfl _ rfl _ _ rfl hX7 rfl ?_)
    refine (wrong_v hG7 hC7).mono ?_
    rintro e w8 ⟨v8, rfl, hb8, hW8⟩
    have hx8 := (hb8.block _ (Array.getElem?_eq_some_iff.1 hx7).1).trans hx7
    have hk8 := (hb8.block _ (Array.getElem?_eq_some_iff.1 hk7).1).trans hk7
    have hX8 := (hb8.block _ (Array.getElem?_eq_some_iff.1 hX7).1).trans hX7
    have hB8 := hB7.below hb8
    have hC8 := hC7.below hb8
    have hH8 := hH7.below hb8
    have hG8 := hG7.below hb8
    have ha8 := ha7.trans (hb8.mono ha7.size)
    clear hx7 hk7 hX7 hB7 hC7 hH7 hG7 ha7
    clear hb8
    rw [hWr.out] at hW8 ⊢
    obtain ⟨wb, wo, wa, wc, rfl, _, _⟩ := hW8
    go_wp2_with (refine ld30 rfl _ rfl _ _ rfl hX8 rfl ?_)
    refine (height_v hG8 hC8 hr).mono ?_
    rintro e w9 ⟨rfl, hb9⟩
    rw [hHe.out]
    have hx9 := (hb9.block _ (Array.getElem?_eq_some_iff.1 hx8).1).trans hx8
    have hk9 := (hb9.block _ (Array.getElem?_eq_some_iff.1 hk8).1).trans hk8
    have hX9 := (hb9.block _ (Array.getElem?_eq_some_iff.1 hX8).1).trans hX8
    have hB9 := hB8.below hb9
    have hC9 := hC8.below hb9
    have hH9 := hH8.below hb9
    have hG9 := hG8.below hb9
    have ha9 := ha8.trans (hb9.mono ha8.size)
    clear hx8 hk8 hX8 hB8 hC8 hH8 hG8 ha8
    clear hb9
    obtain ⟨hb10, hp10⟩ := box24v w9 a b
    have hx10 := (hb10.block _ (Array.getElem?_eq_some_iff.1 hx9).1).trans hx9
    have hk10 := (hb10.block _ (Array.getElem?_eq_some_iff.1 hk9).1).trans hk9
    have hX10 := (hb10.block _ (Array.getElem?_eq_some_iff.1 hX9).1).trans hX9
    have hB10 := hB9.below hb10
    have hC10 := hC9.below hb10
    have hH10 := hH9.below hb10
    have hG10 := hG9.below hb10
    have ha10 := ha9.trans (hb10.mono ha9.size)
    clear hx9 hk9 hX9 hB9 hC9 hH9 hG9 ha9
    clear hb10
    go_wp2_with (refine ld30 rfl _ rfl _ _ rfl hX10 rfl ?_)
    refine (floor_v hG10 hC10 s).mono ?_
    rintro e w11 ⟨rfl, hb11⟩
    rw [hFl.out]
    have hx11 := (hb11.block _ (Array.getElem?_eq_some_iff.1 hx10).1).trans hx10
    have hk11 := (hb11.block _ (Array.getElem?_eq_some_iff.1 hk10).1).trans hk10
    have hX11 := (hb11.block _ (Array.getElem?_eq_some_iff.1 hX10).1).trans hX10
    have hp11 := (hb11.block _ (Array.getElem?_eq_some_iff.1 hp10).1).trans hp10
    have hB11 := hB10.below hb11
    have hC11 := hC10.below hb11
    have hH11 := hH10.below hb11
    have hG11 := hG10.below hb11
    have ha11 := ha10.trans (hb11.mono ha10.size)
    clear hx10 hk10 hX10 hp10 hB10 hC10 hH10 hG10 ha10
    clear hb11
    obtain ⟨hb12, hq12⟩ := box24v w11 u v
    have hx12 := (hb12.block _ (Array.getElem?_eq_some_iff.1 hx11).1).trans hx11
    have hk12 := (hb12.block _ (Array.getElem?_eq_some_iff.1 hk11).1).trans hk11
    have hX12 := (hb12.block _ (Array.getElem?_eq_some_iff.1 hX11).1).trans hX11
    have hp12 := (hb12.block _ (Array.getElem?_eq_some_iff.1 hp11).1).trans hp11
    have hB12 := hB11.below hb12
    have hC12 := hC11.below hb12
    have hH12 := hH11.below hb12
    have hG12 := hG11.below hb12
    have ha12 := ha11.trans (hb12.mono ha11.size)
    clear hx11 hk11 hX11 hp11 hB11 hC11 hH11 hG11 ha11
    clear hb12
    go_wp2_with (refine ld30 rfl _ rfl _ _ rfl hX12 rfl ?_)
    refine (lands_v hG12 hC12 s hr ld).mono ?_
    rintro e w13 ⟨rfl, hb13⟩
    rw [hLa.out]
    have hx13 := (hb13.block _ (Array.getElem?_eq_some_iff.1 hx12).1).trans hx12
    have hk13 := (hb13.block _ (Array.getElem?_eq_some_iff.1 hk12).1).trans hk12
    have hX13 := (hb13.block _ (Array.getElem?_eq_some_iff.1 hX12).1).trans hX12
    have hp13 := (hb13.block _ (Array.getElem?_eq_some_iff.1 hp12).1).trans hp12
    have hq13 := (hb13.block _ (Array.getElem?_eq_some_iff.1 hq12).1).trans hq12
    have hB13 := hB12.below hb13
    have hC13 := hC12.below hb13
    have hH13 := hH12.below hb13
    have hG13 := hG12.below hb13
    have ha13 := ha12.trans (hb13.mono ha12.size)
    clear hx12 hk12 hX12 hp12 hq12 hB12 hC12 hH12 hG12 ha12
    clear hb13
    obtain ⟨pp, hpp⟩ : ∃ pp, w9.heap.size = pp := ⟨_, rfl⟩
    obtain ⟨pq, hpq⟩ : ∃ pq, w11.heap.size = pq := ⟨_, rfl⟩
    rw [hpp] at hp13
    rw [hpq] at hq13
    have hkl13 := (Array.getElem?_eq_some_iff.1 hk13).1
    have hpl13 := (Array.getElem?_eq_some_iff.1 hp13).1
    have hql13 := (Array.getElem?_eq_some_iff.1 hq13).1
    obtain ⟨hlb, hlo, ha', hc', hsl, _, hHI⟩ := id hH13
    obtain ⟨rfl, rfl⟩ : ha = ha' ∧ hc = hc' := by simpa using hsl
    have hHI13 := hHI
    have hi40 := fun W => idx40 (n := hs.length) (c := hc) (k := hr) W (hHI.at_ (ne_nil_of_lt hrl)) hrl
    have hi31 : ∀ W, (Instr.indexAt 31 (.pointer (some ⟨pk, 1, none⟩)) (i64 s)).run Tryd.prog W = .ok (.pointer (some ⟨pk, 1 + s.toNat, none⟩)) W := by
      intro W
      rcases hss with rfl | rfl <;> simp [go_sem]
    go_wp2_with fail
    refine rg_region rdLt11 pureLt11 (gLt11 wa wc hs ha hc hlb hlo hr pk a b u v s hh ff k) BR (by kernel_rfl) (by kernel_rfl) (fun n => BR.drawn _ n) BR.refl (fun _ _ _ => BR.trans) ?_ ?_ ?_
    · intro i hi vs wA wB hG hR
      match i, hi, hG with
      | 0, _, hG => exact hG
      | 1, _, hG => exact hG
      | 2, _, hG => exact hG
      | 3, _, hG => exact hG
      | 4, _, hG => exact hG
      | 5, _, hG => exact hG
      | 6, _, hG => exact hG
      | 7, _, hG => exact hG
      | 8, _, hG => exact hG
      | 9, _, hG => exact hG
      | 10, _, hG => exact hG
      | 11, _, hG => exact hG
      | 12, _, hG => exact hG
      | 13, _, hG => exact hG
      | 14, _, hG => exact hG
      | 15, _, hG => exact hG
      | 16, _, hG => exact hG
      | 17, _, hG => exact hG
      | 18, _, hG => exact hG
      | 19, _, hG => exact hG
      | 20, _, hG => exact hG
      | 21, _, hG => exact hG
      | 22, _, hG => exact hG
      | 23, _, hG => exact hG
      | 24, _, hG => exact hG
      | 25, _, hG => exact hG
      | 26, _, hG => exact hG
      | 27, _, hG => exact hG
      | 28, _, hG => exact hG
      | 29, _, hG => exact hG
      | 30, _, hG => exact hG
      | 31, _, hG => exact hG
      | 32, _, hG => exact hG
      | 33, _, hG => exact hG
      | 34, _, hG => exact hG
      | 35, _, hG => exact hG
      | 36, _, hG => exact hG
      | 37, _, hG => exact hG
      | 38, _, hG => exact hG
      | 39, _, hG => exact hG
      | 40, _, hG => exact hG
      | 41, _, hG => exact hG
      | 42, _, hG => exact hG
      | 43, _, hG => exact hG
      | 44, _, hG => exact hG
      | 45, _, hG => exact hG
      | 46, _, hG => exact hG
      | 47, _, hG => exact hG
      | 48, _, hG => exact hG
      | 49, _, hG => exact hG
      | 50, _, hG => exact hG
      | _ + 51, _, _ => trivial
    · intro i op ho act wA hR hF hD
      have sz : act.tmps.size = 240 := hF.size
      match i, ho, hD with
      | 0, ho, hD =>
        cases ho
        have e13 := slot_tmps (show slotOf act 13 = i64 0 from hF.slot 13 (by kernel_rfl))
        refine rgw_val (wanted_none rfl) (i64 0) (by simp [go_sem, e13]) (BR.refl _) ?_
        exact congrArg (fun v => [v]) (slotOf_same act 82 _ (by omega))
      | 1, ho, hD =>
        cases ho
        have e82 := slot_tmps (List.cons.inj (hD 0 (by decide))).1
        refine rgw_val (wanted_none rfl) (.bool false) (by simp [go_sem, e82]) (BR.refl _) ?_
        exact congrArg (fun v => [v]) (slotOf_same act 83 _ (by omega))
      | 2, ho, hD =>
        cases ho
        have e83 := slot_tmps (List.cons.inj (hD 1 (by decide))).1
        refine rgw_val (wanted_none rfl) (.bool false) (by simp [go_sem, e83]) (BR.refl _) ?_
        exact congrArg (fun v => [v]) (slotOf_same act 84 _ (by omega))
      | 3, ho, hD =>
        cases ho
        have dj : slotOf act 84 = .bool false := (List.cons.inj (hD 2 (by decide))).1
        have e15 := slot_tmps (show slotOf act 15 = i64 0 from hF.slot 15 (by kernel_rfl))
        refine rgw_val (by rw [wanted_of (d := 84) rfl rfl dj]; rfl) (i64 0) (by simp [go_sem, e15]) (BR.refl _) ?_
        exact congrArg (fun v => [v]) (slotOf_same act 85 _ (by omega))
      | 4, ho, hD =>
        cases ho
        have dj : slotOf act 84 = .bool false := (List.cons.inj (hD 2 (by decide))).1
        have e85 := slot_tmps (List.cons.inj (hD 3 (by decide))).1
        refine rgw_val (by rw [wanted_of (d := 84) rfl rfl dj]; rfl) (.bool false) (by simp [go_sem, e85]) (BR.refl _) ?_
        exact congrArg (fun v => [v]) (slotOf_same act 86 _ (by omega))
      | 5, ho, hD =>
        cases ho
        have e84 := slot_tmps (List.cons.inj (hD 2 (by decide))).1
        have e86 := slot_tmps (List.cons.inj (hD 4 (by decide))).1
        refine rgw_val (wanted_none rfl) (.bool false) (by simp [go_sem, e84, e86]) (BR.refl _) ?_
        exact congrArg (fun v => [v]) (slotOf_same act 87 _ (by omega))
      | 6, ho, hD =>
        cases ho
        have e87 := slot_tmps (List.cons.inj (hD 5 (by decide))).1
        refine rgw_val (wanted_none rfl) (.bool false) (by simp [go_sem, e87]) (BR.refl _) ?_
        exact congrArg (fun v => [v]) (slotOf_same act 88 _ (by omega))
      | 7, ho, hD =>
        cases ho
        have dj : slotOf act 88 = .bool false := (List.cons.inj (hD 6 (by decide))).1
        have e17 := slot_tmps (show slotOf act 17 = i64 0 from hF.slot 17 (by kernel_rfl))
        refine rgw_val (by rw [wanted_of (d := 88) rfl rfl dj]; rfl) (i64 0) (by simp [go_sem, e17]) (BR.refl _) ?_
        exact congrArg (fun v => [v]) (slotOf_same act 89 _ (by omega))
      | 8, ho, hD =>
        cases ho
        have dj : slotOf act 88 = .bool false := (List.cons.inj (hD 6 (by decide))).1
        have e89 := slot_tmps (List.cons.inj (hD 7 (by decide))).1
        refine rgw_val (by rw [wanted_of (d := 88) rfl rfl dj]; rfl) (.bool false) (by simp [go_sem, e89]) (BR.refl _) ?_
        exact congrArg (fun v => [v]) (slotOf_same act 90 _ (by omega))
      | 9, ho, hD =>
        cases ho
        have e88 := slot_tmps (List.cons.inj (hD 6 (by decide))).1
        have e90 := slot_tmps (List.cons.inj (hD 8 (by decide))).1
        refine rgw_val (wanted_none rfl) (.bool false) (by simp [go_sem, e88, e90]) (BR.refl _) ?_
        exact congrArg (fun v => [v]) (slotOf_same act 91 _ (by omega))
      | 10, ho, hD =>
        cases ho
        have e91 := slot_tmps (List.cons.inj (hD 9 (by decide))).1
        refine rgw_val (wanted_none rfl) (.bool false) (by simp [go_sem, e91]) (BR.refl _) ?_
        exact congrArg (fun v => [v]) (slotOf_same act 92 _ (by omega))
      | 11, ho, hD =>
        cases ho
        have dj : slotOf act 92 = .bool false := (List.cons.inj (hD 10 (by decide))).1
        have e19 := slot_tmps (show slotOf act 19 = i64 0 from hF.slot 19 (by kernel_rfl))
        refine rgw_val (by rw [wanted_of (d := 92) rfl rfl dj]; rfl) (i64 0) (by simp [go_sem, e19]) (BR.refl _) ?_
        exact congrArg (fun v => [v]) (slotOf_same act 93 _ (by omega))
      | 12, ho, hD =>
        cases ho
        have dj : slotOf act 92 = .bool false := (List.cons.inj (hD 10 (by decide))).1
        have e93 := slot_tmps (List.cons.inj (hD 11 (by decide))).1
        refine rgw_val (by rw [wanted_of (d := 92) rfl rfl dj]; rfl) (.bool false) (by simp [go_sem, e93]) (BR.refl _) ?_
        exact congrArg (fun v => [v]) (slotOf_same act 94 _ (by omega))
      | 13, ho, hD =>
        cases ho
        have e92 := slot_tmps (List.cons.inj (hD 10 (by decide))).1
        have e94 := slot_tmps (List.cons.inj (hD 12 (by decide))).1
        refine rgw_val (wanted_none rfl) (.bool false) (by simp [go_sem, e92, e94]) (BR.refl _) ?_
        exact congrArg (fun v => [v]) (slotOf_same act 95 _ (by omega))
      | 14, ho, hD =>
        cases ho
        have e95 := slot_tmps (List.cons.inj (hD 13 (by decide))).1
        refine rgw_val (wanted_none rfl) (.bool false) (by simp [go_sem, e95]) (BR.refl _) ?_
        exact congrArg (fun v => [v]) (slotOf_same act 96 _ (by omega))
      | 15, ho, hD =>
        cases ho
        have dj : slotOf act 96 = .bool false := (List.cons.inj (hD 14 (by decide))).1
        have e21 := slot_tmps (show slotOf act 21 = i64 0 from hF.slot 21 (by kernel_rfl))
        refine rgw_val (by rw [wanted_of (d := 96) rfl rfl dj]; rfl) (i64 0) (by simp [go_sem, e21]) (BR.refl _) ?_
        exact congrArg (fun v => [v]) (slotOf_same act 97 _ (by omega))
      | 16, ho, hD =>
        cases ho
        have dj : slotOf act 96 = .bool false := (List.cons.inj (hD 14 (by decide))).1
        have e97 := slot_tmps (List.cons.inj (hD 15 (by decide))).1
        refine rgw_val (by rw [wanted_of (d := 96) rfl rfl dj]; rfl) (.bool false) (by simp [go_sem, e97]) (BR.refl _) ?_
        exact congrArg (fun v => [v]) (slotOf_same act 98 _ (by omega))
      | 17, ho, hD =>
        cases ho
        have e96 := slot_tmps (List.cons.inj (hD 14 (by decide))).1
        have e98 := slot_tmps (List.cons.inj (hD 16 (by decide))).1
        refine rgw_val (wanted_none rfl) (.bool false) (by simp [go_sem, e96, e98]) (BR.refl _) ?_
        exact congrArg (fun v => [v]) (slotOf_same act 99 _ (by omega))
      | 18, ho, hD =>
        cases ho
        have e99 := slot_tmps (List.cons.inj (hD 17 (by decide))).1
        refine rgw_val (wanted_none rfl) (.bool false) (by simp [go_sem, e99]) (BR.refl _) ?_
        exact congrArg (fun v => [v]) (slotOf_same act 100 _ (by omega))
      | 19, ho, hD =>
        cases ho
        have dj : slotOf act 100 = .bool false := (List.cons.inj (hD 18 (by decide))).1
        have e12 := slot_tmps (show slotOf act 12 = .bool true from hF.slot 12 (by kernel_rfl))
        refine rgw_val (by rw [wanted_of (d := 100) rfl rfl dj]; rfl) (.bool true) (by simp [go_sem, e12]) (BR.refl _) ?_
        exact congrArg (fun v => [v]) (slotOf_same act 101 _ (by omega))
      | 20, ho, hD =>
        cases ho
        have dj : slotOf act 100 = .bool false := (List.cons.inj (hD 18 (by decide))).1
        have e101 := slot_tmps (List.cons.inj (hD 19 (by decide))).1
        refine rgw_val (by rw [wanted_of (d := 100) rfl rfl dj]; rfl) (.bool false) (by simp [go_sem, e101]) (BR.refl _) ?_
        exact congrArg (fun v => [v]) (slotOf_same act 102 _ (by omega))
      | 21, ho, hD =>
        cases ho
        have e100 := slot_tmps (List.cons.inj (hD 18 (by decide))).1
        have e102 := slot_tmps (List.cons.inj (hD 20 (by decide))).1
        refine rgw_val (wanted_none rfl) (.bool false) (by simp [go_sem, e100, e102]) (BR.refl _) ?_
        exact congrArg (fun v => [v]) (slotOf_same act 103 _ (by omega))
      | 22, ho, hD =>
        cases ho
        have e103 := slot_tmps (List.cons.inj (hD 21 (by decide))).1
        refine rgw_val (wanted_none rfl) (.bool false) (by simp [go_sem, e103]) (BR.refl _) ?_
        exact congrArg (fun v => [v]) (slotOf_same act 104 _ (by omega))
      | 23, ho, hD =>
        cases ho
        have dj : slotOf act 104 = .bool false := (List.cons.inj (hD 22 (by decide))).1
        have e14 := slot_tmps (show slotOf act 14 = .slice wa 0 wc from hF.slot 14 (by kernel_rfl))
        refine rgw_val (by rw [wanted_of (d := 104) rfl rfl dj]; rfl) (.slice wa 0 wc) (by simp [go_sem, e14]) (BR.refl _) ?_
        exact congrArg (fun v => [v]) (slotOf_same act 105 _ (by omega))
      | 24, ho, hD =>
        cases ho
        have dj : slotOf act 104 = .bool false := (List.cons.inj (hD 22 (by decide))).1
        have e105 := slot_tmps (List.cons.inj (hD 23 (by decide))).1
        refine rgw_val (by rw [wanted_of (d := 104) rfl rfl dj]; rfl) (i64 0) (by simp [go_sem, e105]) (BR.refl _) ?_
        exact congrArg (fun v => [v]) (slotOf_same act 106 _ (by omega))
      | 25, ho, hD =>
        cases ho
        have dj : slotOf act 104 = .bool false := (List.cons.inj (hD 22 (by decide))).1
        have e106 := slot_tmps (List.cons.inj (hD 24 (by decide))).1
        refine rgw_val (by rw [wanted_of (d := 104) rfl rfl dj]; rfl) (.bool false) (by simp [go_sem, e106]) (BR.refl _) ?_
        exact congrArg (fun v => [v]) (slotOf_same act 107 _ (by omega))
      | 26, ho, hD =>
        cases ho
        have e104 := slot_tmps (List.cons.inj (hD 22 (by decide))).1
        have e107 := slot_tmps (List.cons.inj (hD 25 (by decide))).1
        refine rgw_val (wanted_none rfl) (.bool false) (by simp [go_sem, e104, e107]) (BR.refl _) ?_
        exact congrArg (fun v => [v]) (slotOf_same act 108 _ (by omega))
      | 27, ho, hD =>
        cases ho
        have e108 := slot_tmps (List.cons.inj (hD 26 (by decide))).1
        refine rgw_val (wanted_none rfl) (.bool false) (by simp [go_sem, e108]) (BR.refl _) ?_
        exact congrArg (fun v => [v]) (slotOf_same act 109 _ (by omega))
      | 28, ho, hD =>
        cases ho
        have dj : slotOf act 109 = .bool false := (List.cons.inj (hD 27 (by decide))).1
        have e16 := slot_tmps (show slotOf act 16 = .pointer (some ⟨pp, 0, none⟩) from hF.slot 16 (by kernel_rfl))
        have hpA := (Below.block hR _ hpl13).trans hp13
        have hpc := cells_of hpA
        refine rgw_val (by rw [wanted_of (d := 109) rfl rfl dj]; rfl) (.agg #[i64 a, i64 b]) (by simp [go_sem, e16, hpc]) (BR.refl _) ?_
        exact congrArg (fun v => [v]) (slotOf_same act 110 _ (by omega))
      | 29, ho, hD =>
        cases ho
        have dj : slotOf act 109 = .bool false := (List.cons.inj (hD 27 (by decide))).1
        have e7 := slot_tmps (show slotOf act 7 = .pointer (some ⟨pk, 0, none⟩) from hF.slot 7 (by kernel_rfl))
        refine rgw_val (by rw [wanted_of (d := 109) rfl rfl dj]; rfl) (.pointer (some ⟨pk, 0, none⟩)) (by simp [go_sem, e7]) (BR.refl _) ?_
        exact congrArg (fun v => [v]) (slotOf_same act 111 _ (by omega))
      | 30, ho, hD =>
        cases ho
        have dj : slotOf act 109 = .bool false := (List.cons.inj (hD 27 (by decide))).1
        have e111 := slot_tmps (List.cons.inj (hD 29 (by decide))).1
        have hkA := (Below.block hR _ hkl13).trans hk13
        have hkc := cells_of hkA
        refine rgw_val (by rw [wanted_of (d := 109) rfl rfl dj]; rfl) (.slice ha hs.length hc) (by simp [go_sem, e111, hkc]) (BR.refl _) ?_
        exact congrArg (fun v => [v]) (slotOf_same act 112 _ (by omega))
      | 31, ho, hD =>
        cases ho
        have dj : slotOf act 109 = .bool false := (List.cons.inj (hD 27 (by decide))).1
        have e10 := slot_tmps (show slotOf act 10 = i64 hr from hF.slot 10 (by kernel_rfl))
        refine rgw_val (by rw [wanted_of (d := 109) rfl rfl dj]; rfl) (i64 hr) (by simp [go_sem, e10]) (BR.refl _) ?_
        exact congrArg (fun v => [v]) (slotOf_same act 113 _ (by omega))
      | 32, ho, hD =>
        cases ho
        have dj : slotOf act 109 = .bool false := (List.cons.inj (hD 27 (by decide))).1
        have e112 := slot_tmps (List.cons.inj (hD 30 (by decide))).1
        have e113 := slot_tmps (List.cons.inj (hD 31 (by decide))).1
        refine rgw_val (by rw [wanted_of (d := 109) rfl rfl dj]; rfl) (.pointer (some ⟨hlb, hlo + hr, none⟩)) (by simp [go_sem, e112, e113, hi40]) (BR.refl _) ?_
        exact congrArg (fun v => [v]) (slotOf_same act 114 _ (by omega))
      | 33, ho, hD =>
        cases ho
        have dj : slotOf act 109 = .bool false := (List.cons.inj (hD 27 (by decide))).1
        have e114 := slot_tmps (List.cons.inj (hD 32 (by decide))).1
        have hHA := hHI13.same (Same.of_below hR)
        have hhc := hHA.cell hr hrl
        rw [hhe.out] at hhc
        refine rgw_val (by rw [wanted_of (d := 109) rfl rfl dj]; rfl) (i64 hh) (by simp [go_sem, e114, hhc]) (BR.refl _) ?_
        exact congrArg (fun v => [v]) (slotOf_same act 115 _ (by omega))
      | 34, ho, hD =>
        cases ho
        have dj : slotOf act 109 = .bool false := (List.cons.inj (hD 27 (by decide))).1
        have e110 := slot_tmps (List.cons.inj (hD 28 (by decide))).1
        have e115 := slot_tmps (List.cons.inj (hD 33 (by decide))).1
        refine rgw_call (by rw [wanted_of (d := 109) rfl rfl dj]; rfl) 30 #[.agg #[i64 a, i64 b], i64 hh] (by simp [go_sem, e110, e115]) rfl ?_
        refine (contains24_any _ _ _ _).mono ?_
        rintro e wB ⟨rfl, hb⟩
        rw [hIn.out]
        exact ⟨_, rfl, hb, congrArg (fun v => [v]) (slotOf_same act 116 _ (by omega))⟩
      | 35, ho, hD =>
        cases ho
        have dj : slotOf act 109 = .bool false := (List.cons.inj (hD 27 (by decide))).1
        have e116 := slot_tmps (List.cons.inj (hD 34 (by decide))).1
        refine rgw_val (by rw [wanted_of (d := 109) rfl rfl dj]; rfl) (.bool false) (by simp [go_sem, e116]) (BR.refl _) ?_
        exact congrArg (fun v => [v]) (slotOf_same act 117 _ (by omega))
      | 36, ho, hD =>
        cases ho
        have e109 := slot_tmps (List.cons.inj (hD 27 (by decide))).1
        have e117 := slot_tmps (List.cons.inj (hD 35 (by decide))).1
        refine rgw_val (wanted_none rfl) (.bool false) (by simp [go_sem, e109, e117]) (BR.refl _) ?_
        exact congrArg (fun v => [v]) (slotOf_same act 118 _ (by omega))
      | 37, ho, hD =>
        cases ho
        have e118 := slot_tmps (List.cons.inj (hD 36 (by decide))).1
        refine rgw_val (wanted_none rfl) (.bool false) (by simp [go_sem, e118]) (BR.refl _) ?_
        exact congrArg (fun v => [v]) (slotOf_same act 119 _ (by omega))
      | 38, ho, hD =>
        cases ho
        have dj : slotOf act 119 = .bool false := (List.cons.inj (hD 37 (by decide))).1
        have e18 := slot_tmps (show slotOf act 18 = .pointer (some ⟨pq, 0, none⟩) from hF.slot 18 (by kernel_rfl))
        have hqA := (Below.block hR _ hql13).trans hq13
        have hqc := cells_of hqA
        refine rgw_val (by rw [wanted_of (d := 119) rfl rfl dj]; rfl) (.agg #[i64 u, i64 v]) (by simp [go_sem, e18, hqc]) (BR.refl _) ?_
        exact congrArg (fun v => [v]) (slotOf_same act 120 _ (by omega))
      | 39, ho, hD =>
        cases ho
        have dj : slotOf act 119 = .bool false := (List.cons.inj (hD 37 (by decide))).1
        have e9 := slot_tmps (show slotOf act 9 = i64 s from hF.slot 9 (by kernel_rfl))
        refine rgw_val (by rw [wanted_of (d := 119) rfl rfl dj]; rfl) (i64 s) (by simp [go_sem, e9]) (BR.refl _) ?_
        exact congrArg (fun v => [v]) (slotOf_same act 121 _ (by omega))
      | 40, ho, hD =>
        cases ho
        have dj : slotOf act 119 = .bool false := (List.cons.inj (hD 37 (by decide))).1
        have e7 := slot_tmps (show slotOf act 7 = .pointer (some ⟨pk, 0, none⟩) from hF.slot 7 (by kernel_rfl))
        refine rgw_val (by rw [wanted_of (d := 119) rfl rfl dj]; rfl) (.pointer (some ⟨pk, 1, none⟩)) (by simp [go_sem, e7]) (BR.refl _) ?_
        exact congrArg (fun v => [v]) (slotOf_same act 122 _ (by omega))
      | 41, ho, hD =>
        cases ho
        have dj : slotOf act 119 = .bool false := (List.cons.inj (hD 37 (by decide))).1
        have e121 := slot_tmps (List.cons.inj (hD 39 (by decide))).1
        have e122 := slot_tmps (List.cons.inj (hD 40 (by decide))).1
        refine rgw_val (by rw [wanted_of (d := 119) rfl rfl dj]; rfl) (.pointer (some ⟨pk, 1 + s.toNat, none⟩)) (by simp [go_sem, e121, e122, hi31]) (BR.refl _) ?_
        exact congrArg (fun v => [v]) (slotOf_same act 123 _ (by omega))
      | 42, ho, hD =>
        cases ho
        have dj : slotOf act 119 = .bool false := (List.cons.inj (hD 37 (by decide))).1
        have e123 := slot_tmps (List.cons.inj (hD 41 (by decide))).1
        have hkA := (Below.block hR _ hkl13).trans hk13
        have hkc := cells_of hkA
        have hfc := (hkc (1 + s.toNat)).trans hff
        refine rgw_val (by rw [wanted_of (d := 119) rfl rfl dj]; rfl) (i64 ff) (by simp [go_sem, e123, hfc]) (BR.refl _) ?_
        exact congrArg (fun v => [v]) (slotOf_same act 124 _ (by omega))
      | 43, ho, hD =>
        cases ho
        have dj : slotOf act 119 = .bool false := (List.cons.inj (hD 37 (by decide))).1
        have e120 := slot_tmps (List.cons.inj (hD 38 (by decide))).1
        have e124 := slot_tmps (List.cons.inj (hD 42 (by decide))).1
        refine rgw_call (by rw [wanted_of (d := 119) rfl rfl dj]; rfl) 30 #[.agg #[i64 u, i64 v], i64 ff] (by simp [go_sem, e120, e124]) rfl ?_
        refine (contains24_any _ _ _ _).mono ?_
        rintro e wB ⟨rfl, hb⟩
        rw [hIn2.out]
        exact ⟨_, rfl, hb, congrArg (fun v => [v]) (slotOf_same act 125 _ (by omega))⟩
      | 44, ho, hD =>
        cases ho
        have dj : slotOf act 119 = .bool false := (List.cons.inj (hD 37 (by decide))).1
        have e125 := slot_tmps (List.cons.inj (hD 43 (by decide))).1
        refine rgw_val (by rw [wanted_of (d := 119) rfl rfl dj]; rfl) (.bool false) (by simp [go_sem, e125]) (BR.refl _) ?_
        exact congrArg (fun v => [v]) (slotOf_same act 126 _ (by omega))
      | 45, ho, hD =>
        cases ho
        have e119 := slot_tmps (List.cons.inj (hD 37 (by decide))).1
        have e126 := slot_tmps (List.cons.inj (hD 44 (by decide))).1
        refine rgw_val (wanted_none rfl) (.bool false) (by simp [go_sem, e119, e126]) (BR.refl _) ?_
        exact congrArg (fun v => [v]) (slotOf_same act 127 _ (by omega))
      | 46, ho, hD =>
        cases ho
        have e127 := slot_tmps (List.cons.inj (hD 45 (by decide))).1
        refine rgw_val (wanted_none rfl) (.bool false) (by simp [go_sem, e127]) (BR.refl _) ?_
        exact congrArg (fun v => [v]) (slotOf_same act 128 _ (by omega))
      | 47, ho, hD =>
        cases ho
        have dj : slotOf act 128 = .bool false := (List.cons.inj (hD 46 (by decide))).1
        have e20 := slot_tmps (show slotOf act 20 = i64 k from hF.slot 20 (by kernel_rfl))
        refine rgw_val (by rw [wanted_of (d := 128) rfl rfl dj]; rfl) (i64 k) (by simp [go_sem, e20]) (BR.refl _) ?_
        exact congrArg (fun v => [v]) (slotOf_same act 129 _ (by omega))
      | 48, ho, hD =>
        cases ho
        have dj : slotOf act 128 = .bool false := (List.cons.inj (hD 46 (by decide))).1
        have e129 := slot_tmps (List.cons.inj (hD 47 (by decide))).1
        refine rgw_call (by rw [wanted_of (d := 128) rfl rfl dj]; rfl) 31 #[i64 k, i64 0, i64 2] (by simp [go_sem, e129]) rfl ?_
        refine (inside_any _ _ _ _).mono ?_
        rintro e wB ⟨rfl, rfl⟩
        rw [hIk.out]
        exact ⟨_, rfl, BR.refl _, congrArg (fun v => [v]) (slotOf_same act 130 _ (by omega))⟩
      | 49, ho, hD =>
        cases ho
        have dj : slotOf act 128 = .bool false := (List.cons.inj (hD 46 (by decide))).1
        have e130 := slot_tmps (List.cons.inj (hD 48 (by decide))).1
        refine rgw_val (by rw [wanted_of (d := 128) rfl rfl dj]; rfl) (.bool false) (by simp [go_sem, e130]) (BR.refl _) ?_
        exact congrArg (fun v => [v]) (slotOf_same act 131 _ (by omega))
      | 50, ho, hD =>
        cases ho
        have e128 := slot_tmps (List.cons.inj (hD 46 (by decide))).1
        have e131 := slot_tmps (List.cons.inj (hD 49 (by decide))).1
        refine rgw_val (wanted_none rfl) (.bool false) (by simp [go_sem, e128, e131]) (BR.refl _) ?_
        exact congrArg (fun v => [v]) (slotOf_same act 132 _ (by omega))
      | _ + 51, ho, _ => cases ho
    · intro act wA hR hF hA
      have f3 : slotOf act 3 = .pointer (some ⟨w.heap.size, 0, none⟩) := hF.slot 3 (by kernel_rfl)
      have f6 : slotOf act 6 = .bool false := hF.slot 6 (by kernel_rfl)
      have f7 : slotOf act 7 = .pointer (some ⟨pk, 0, none⟩) := hF.slot 7 (by kernel_rfl)
      have f8 : slotOf act 8 = .pointer (some ⟨pX, 0, none⟩) := hF.slot 8 (by kernel_rfl)
      have f9 : slotOf act 9 = i64 s := hF.slot 9 (by kernel_rfl)
      have f10 : slotOf act 10 = i64 hr := hF.slot 10 (by kernel_rfl)
      have f11 : slotOf act 11 = i64 ld := hF.slot 11 (by kernel_rfl)
      have f12 : slotOf act 12 = .bool true := hF.slot 12 (by kernel_rfl)
      have f13 : slotOf act 13 = i64 0 := hF.slot 13 (by kernel_rfl)
      have f14 : slotOf act 14 = .slice wa 0 wc := hF.slot 14 (by kernel_rfl)
      have f15 : slotOf act 15 = i64 0 := hF.slot 15 (by kernel_rfl)
      have f16 : slotOf act 16 = .pointer (some ⟨pp, 0, none⟩) := hF.slot 16 (by kernel_rfl)
      have f17 : slotOf act 17 = i64 0 := hF.slot 17 (by kernel_rfl)
      have f18 : slotOf act 18 = .pointer (some ⟨pq, 0, none⟩) := hF.slot 18 (by kernel_rfl)
      have f19 : slotOf act 19 = i64 0 := hF.slot 19 (by kernel_rfl)
      have f20 : slotOf act 20 = i64 k := hF.slot 20 (by kernel_rfl)
      have f21 : slotOf act 21 = i64 0 := hF.slot 21 (by kernel_rfl)
      have f82 : slotOf act 82 = i64 0 := (List.cons.inj (hA 0 (by decide))).1
      have f83 : slotOf act 83 = .bool false := (List.cons.inj (hA 1 (by decide))).1
      have f84 : slotOf act 84 = .bool false := (List.cons.inj (hA 2 (by decide))).1
      have f85 : slotOf act 85 = i64 0 := (List.cons.inj (hA 3 (by decide))).1
      have f86 : slotOf act 86 = .bool false := (List.cons.inj (hA 4 (by decide))).1
      have f87 : slotOf act 87 = .bool false := (List.cons.inj (hA 5 (by decide))).1
      have f88 : slotOf act 88 = .bool false := (List.cons.inj (hA 6 (by decide))).1
      have f89 : slotOf act 89 = i64 0 := (List.cons.inj (hA 7 (by decide))).1
      have f90 : slotOf act 90 = .bool false := (List.cons.inj (hA 8 (by decide))).1
      have f91 : slotOf act 91 = .bool false := (List.cons.inj (hA 9 (by decide))).1
      have f92 : slotOf act 92 = .bool false := (List.cons.inj (hA 10 (by decide))).1
      have f93 : slotOf act 93 = i64 0 := (List.cons.inj (hA 11 (by decide))).1
      have f94 : slotOf act 94 = .bool false := (List.cons.inj (hA 12 (by decide))).1
      have f95 : slotOf act 95 = .bool false := (List.cons.inj (hA 13 (by decide))).1
      have f96 : slotOf act 96 = .bool false := (List.cons.inj (hA 14 (by decide))).1
      have f97 : slotOf act 97 = i64 0 := (List.cons.inj (hA 15 (by decide))).1
      have f98 : slotOf act 98 = .bool false := (List.cons.inj (hA 16 (by decide))).1
      have f99 : slotOf act 99 = .bool false := (List.cons.inj (hA 17 (by decide))).1
      have f100 : slotOf act 100 = .bool false := (List.cons.inj (hA 18 (by decide))).1
      have f101 : slotOf act 101 = .bool true := (List.cons.inj (hA 19 (by decide))).1
      have f102 : slotOf act 102 = .bool false := (List.cons.inj (hA 20 (by decide))).1
      have f103 : slotOf act 103 = .bool false := (List.cons.inj (hA 21 (by decide))).1
      have f104 : slotOf act 104 = .bool false := (List.cons.inj (hA 22 (by decide))).1
      have f105 : slotOf act 105 = .slice wa 0 wc := (List.cons.inj (hA 23 (by decide))).1
      have f106 : slotOf act 106 = i64 0 := (List.cons.inj (hA 24 (by decide))).1
      have f107 : slotOf act 107 = .bool false := (List.cons.inj (hA 25 (by decide))).1
      have f108 : slotOf act 108 = .bool false := (List.cons.inj (hA 26 (by decide))).1
      have f109 : slotOf act 109 = .bool false := (List.cons.inj (hA 27 (by decide))).1
      have f110 : slotOf act 110 = .agg #[i64 a, i64 b] := (List.cons.inj (hA 28 (by decide))).1
      have f111 : slotOf act 111 = .pointer (some ⟨pk, 0, none⟩) := (List.cons.inj (hA 29 (by decide))).1
      have f112 : slotOf act 112 = .slice ha hs.length hc := (List.cons.inj (hA 30 (by decide))).1
      have f113 : slotOf act 113 = i64 hr := (List.cons.inj (hA 31 (by decide))).1
      have f114 : slotOf act 114 = .pointer (some ⟨hlb, hlo + hr, none⟩) := (List.cons.inj (hA 32 (by decide))).1
      have f115 : slotOf act 115 = i64 hh := (List.cons.inj (hA 33 (by decide))).1
      have f116 : slotOf act 116 = .bool true := (List.cons.inj (hA 34 (by decide))).1
      have f117 : slotOf act 117 = .bool false := (List.cons.inj (hA 35 (by decide))).1
      have f118 : slotOf act 118 = .bool false := (List.cons.inj (hA 36 (by decide))).1
      have f119 : slotOf act 119 = .bool false := (List.cons.inj (hA 37 (by decide))).1
      have f120 : slotOf act 120 = .agg #[i64 u, i64 v] := (List.cons.inj (hA 38 (by decide))).1
      have f121 : slotOf act 121 = i64 s := (List.cons.inj (hA 39 (by decide))).1
      have f122 : slotOf act 122 = .pointer (some ⟨pk, 1, none⟩) := (List.cons.inj (hA 40 (by decide))).1
      have f123 : slotOf act 123 = .pointer (some ⟨pk, 1 + s.toNat, none⟩) := (List.cons.inj (hA 41 (by decide))).1
      have f124 : slotOf act 124 = i64 ff := (List.cons.inj (hA 42 (by decide))).1
      have f125 : slotOf act 125 = .bool true := (List.cons.inj (hA 43 (by decide))).1
      have f126 : slotOf act 126 = .bool false := (List.cons.inj (hA 44 (by decide))).1
      have f127 : slotOf act 127 = .bool false := (List.cons.inj (hA 45 (by decide))).1
      have f128 : slotOf act 128 = .bool false := (List.cons.inj (hA 46 (by decide))).1
      have f129 : slotOf act 129 = i64 k := (List.cons.inj (hA 47 (by decide))).1
      have f130 : slotOf act 130 = .bool true := (List.cons.inj (hA 48 (by decide))).1
      have f131 : slotOf act 131 = .bool false := (List.cons.inj (hA 49 (by decide))).1
      have f132 : slotOf act 132 = .bool false := (List.cons.inj (hA 50 (by decide))).1
      rw [act_eta act 240 hF.size hF.defers]
      simp only [show List.range 240 = [0, 1, 2, 3, 4, 5, 6, 7, 8, 9, 10, 11, 12, 13, 14, 15, 16, 17, 18, 19, 20, 21, 22, 23, 24, 25, 26, 27, 28, 29, 30, 31, 32, 33, 34, 35, 36, 37, 38, 39, 40, 41, 42, 43, 44, 45, 46, 47, 48, 49, 50, 51, 52, 53, 54, 55, 56, 57, 58, 59, 60, 61, 62, 63, 64, 65, 66, 67, 68, 69, 70, 71, 72, 73, 74, 75, 76, 77, 78, 79, 80, 81, 82, 83, 84, 85, 86, 87, 88, 89, 90, 91, 92, 93, 94, 95, 96, 97, 98, 99, 100, 101, 102, 103, 104, 105, 106, 107, 108, 109, 110, 111, 112, 113, 114, 115, 116, 117, 118, 119, 120, 121, 122, 123, 124, 125, 126, 127, 128, 129, 130, 131, 132, 133, 134, 135, 136, 137, 138, 139, 140, 141, 142, 143, 144, 145, 146, 147, 148, 149, 150, 151, 152, 153, 154, 155, 156, 157, 158, 159, 160, 161, 162, 163, 164, 165, 166, 167, 168, 169, 170, 171, 172, 173, 174, 175, 176, 177, 178, 179, 180, 181, 182, 183, 184, 185, 186, 187, 188, 189, 190, 191, 192, 193, 194, 195, 196, 197, 198, 199, 200, 201, 202, 203, 204, 205, 206, 207, 208, 209, 210, 211, 212, 213, 214, 215, 216, 217, 218, 219, 220, 221, 222, 223, 224, 225, 226, 227, 228, 229, 230, 231, 232, 233, 234, 235, 236, 237, 238, 239] from rfl, List.map_cons, List.map_nil, f3, f6, f7, f8, f9, f10, f11, f12, f13, f14, f15, f16, f17, f18, f19, f20, f21, f82, f83, f84, f85, f86, f87, f88, f89, f90, f91, f92, f93, f94, f95, f96, f97, f98, f99, f100, f101, f102, f103, f104, f105, f106, f107, f108, f109, f110, f111, f112, f113, f114, f115, f116, f117, f118, f119, f120, f121, f122, f123, f124, f125, f126, f127, f128, f129, f130, f131, f132]
      clear hA hF f3 f6 f7 f8 f9 f10 f11 f12 f13 f14 f15 f16 f17 f18 f19 f20 f21 f82 f83 f84 f85 f86 f87 f88 f89 f90 f91 f92 f93 f94 f95 f96 f97 f98 f99 f100 f101 f102 f103 f104 f105 f106 f107 f108 f109 f110 f111 f112 f113 f114 f115 f116 f117 f118 f119 f120 f121 f122 f123 f124 f125 f126 f127 f128 f129 f130 f131 f132
      have hx14 := (hR.block _ (Array.getElem?_eq_some_iff.1 hx13).1).trans hx13
      have hk14 := (hR.block _ (Array.getElem?_eq_some_iff.1 hk13).1).trans hk13
      have hX14 := (hR.block _ (Array.getElem?_eq_some_iff.1 hX13).1).trans hX13
      have hp14 := (hR.block _ (Array.getElem?_eq_some_iff.1 hp13).1).trans hp13
      have hq14 := (hR.block _ (Array.getElem?_eq_some_iff.1 hq13).1).trans hq13
      have hB14 := hB13.below hR
      have hC14 := hC13.below hR
      have hH14 := hH13.below hR
      have hG14 := hG13.below hR
      have ha14 := ha13.trans (hR.mono ha13.size)
      clear hR hx13 hk13 hX13 hp13 hq13 hB13 hC13 hH13 hG13 ha13 hkl13 hpl13 hql13 hHI13 hHI hi40 hi31 hff hIn hIn2
      go_wp2_with (first | (refine ld30 rfl _ rfl _ _ rfl hX14 rfl ?_) | (refine ld43 rfl _ rfl _ _ rfl hk14 rfl ?_))
      refine (hAf _ hC14 hH14 s hr ld hss hh0 hh1 hld0 hld1).mono ?_
      rintro e w15 ⟨rfl, hb15⟩
      rw [hlz.out]
      have hx15 := (hb15.block _ (Array.getElem?_eq_some_iff.1 hx14).1).trans hx14
      have hk15 := (hb15.block _ (Array.getElem?_eq_some_iff.1 hk14).1).trans hk14
      have hX15 := (hb15.block _ (Array.getElem?_eq_some_iff.1 hX14).1).trans hX14
      have hB15 := hB14.below hb15
      have hC15 := hC14.below hb15
      have hH15 := hH14.below hb15
      have hG15 := hG14.below hb15
      have ha15 := ha14.trans (hb15.mono ha14.size)
      clear hx14 hk14 hX14 hB14 hC14 hH14 hG14 ha14
      clear hb15
      go_upto_region 14 with fail
      go_cut [151] (fun c wx => c = .bool false ∧ wx = w15)
      case first =>
        rcases (by omega : k = 0 ∨ k = 1 ∨ k = 2) with rfl | rfl | rfl
        · obtain rfl := hk0 rfl
          go_wp2_with fail
          go_meet
          case rel => exact ⟨rfl, rfl⟩
        · go_wp2_with fail
          go_meet
          case rel => exact ⟨rfl, rfl⟩
        · obtain rfl := hk2 rfl
          go_wp2_with fail
          go_meet
          case rel => exact ⟨rfl, rfl⟩
      case rest =>
        obtain ⟨rfl, rfl⟩ := hcut
        clear hk2 hk0 hkr hIk
        go_wp2_with (refine ld30 rfl _ rfl _ _ rfl hX15 rfl ?_)
        refine (most_v hG15 hC15 s hr).mono ?_
        rintro e w16 ⟨rfl, hb16⟩
        rw [hMo.out]
        have hx16 := (hb16.block _ (Array.getElem?_eq_some_iff.1 hx15).1).trans hx15
        have hk16 := (hb16.block _ (Array.getElem?_eq_some_iff.1 hk15).1).trans hk15
        have hX16 := (hb16.block _ (Array.getElem?_eq_some_iff.1 hX15).1).trans hX15
        have hB16 := hB15.below hb16
        have hC16 := hC15.below hb16
        have hH16 := hH15.below hb16
        have hG16 := hG15.below hb16
        have ha16 := ha15.trans (hb16.mono ha15.size)
        clear hx15 hk15 hX15 hB15 hC15 hH15 hG15 ha15
        clear hb16
        go_upto_region 17 with fail
        go_cut [169] (fun c wx => c = .bool false ∧ Below w16.heap.size w16 wx)
        case first =>
          rcases hmc with ⟨rfl, ⟨hm0, hm1⟩, hma⟩ | rfl
          · have hma := Lib.hid hma
            go_wp2_with (first | (go_at_call 32; refine (hAf _ hC16 hH16 s hr m hss hh0 hh1 hm0 hm1).mono ?_; rintro e w17 ⟨rfl, hb17⟩; rw [hma.out]) | (refine ld30g (by rfl) _ rfl _ _ rfl hX16 rfl ?_) | (refine ld43g (by rfl) _ rfl _ _ rfl hk16 rfl ?_))
            go_meet
            case rel => exact ⟨rfl, hb17⟩
          · go_wp2_with fail
            go_meet
            case rel => exact ⟨rfl, Below.refl _ _⟩
        case rest =>
          obtain ⟨rfl, hb17⟩ := hcut
          have hx17 := (hb17.block _ (Array.getElem?_eq_some_iff.1 hx16).1).trans hx16
          have hk17 := (hb17.block _ (Array.getElem?_eq_some_iff.1 hk16).1).trans hk16
          have hX17 := (hb17.block _ (Array.getElem?_eq_some_iff.1 hX16).1).trans hX16
          have hB17 := hB16.below hb17
          have hC17 := hC16.below hb17
          have hH17 := hH16.below hb17
          have hG17 := hG16.below hb17
          have ha17 := ha16.trans (hb17.mono ha16.size)
          clear hx16 hk16 hX16 hB16 hC16 hH16 hG16 ha16
          clear hb17 hmc
          go_wp2_with (refine ld30 rfl _ rfl _ _ rfl hX17 rfl ?_)
          refine (first_v hG17 hC17 s ld).mono ?_
          rintro e w18 ⟨rfl, hb18⟩
          rw [hFi.out]
          have hx18 := (hb18.block _ (Array.getElem?_eq_some_iff.1 hx17).1).trans hx17
          have hk18 := (hb18.block _ (Array.getElem?_eq_some_iff.1 hk17).1).trans hk17
          have hX18 := (hb18.block _ (Array.getElem?_eq_some_iff.1 hX17).1).trans hX17
          have hB18 := hB17.below hb18
          have hC18 := hC17.below hb18
          have hH18 := hH17.below hb18
          have hG18 := hG17.below hb18
          have ha18 := ha17.trans (hb18.mono ha17.size)
          clear hx17 hk17 hX17 hB17 hC17 hH17 hG17 ha17
          clear hb18
          have hxc18 := cells_of hx18
          have hxl18 := (Array.getElem?_eq_some_iff.1 hx18).1
          go_upto_region 20 with fail
          go_cut [196] (fun c wx => c = .bool false ∧ Below w18.heap.size w18 wx)
          case first =>
            rcases hfc with ⟨rfl, ⟨hf0, hf1⟩, hfa⟩ | rfl
            · have hfa := Lib.hid hfa
              have hIn3 := Lib.hid (inB_true hf0 (show fi ≤ (B.tides.length : Int) - 1 by omega))
              go_wp2_with (first | (go_at_call 31; refine (inside_any _ _ _ _).mono ?_; rintro e w' ⟨rfl, rfl⟩; rw [hIn3.out]) | (go_at_call 32; refine (hAf _ hC18 hH18 s fi ld hss hf0 hf1 hld0 hld1).mono ?_; rintro e w19 ⟨rfl, hb19⟩; rw [hfa.out]) | (refine ld30g (by rfl) _ rfl _ _ rfl hX18 rfl ?_) | (refine ld43g (by rfl) _ rfl _ _ rfl hk18 rfl ?_))
              go_meet
              case rel => exact ⟨rfl, hb19⟩
            · go_wp2_with fail
              go_meet
              case rel => exact ⟨rfl, Below.refl _ _⟩
          case rest =>
            obtain ⟨rfl, hb19⟩ := hcut
            clear hxc18 hxl18
            have hx19 := (hb19.block _ (Array.getElem?_eq_some_iff.1 hx18).1).trans hx18
            have hk19 := (hb19.block _ (Array.getElem?_eq_some_iff.1 hk18).1).trans hk18
            have hX19 := (hb19.block _ (Array.getElem?_eq_some_iff.1 hX18).1).trans hX18
            have hB19 := hB18.below hb19
            have hC19 := hC18.below hb19
            have hH19 := hH18.below hb19
            have hG19 := hG18.below hb19
            have ha19 := ha18.trans (hb19.mono ha18.size)
            clear hx18 hk18 hX18 hB18 hC18 hH18 hG18 ha18
            clear hb19 hfc
            go_wp2_with (refine ld30 rfl _ rfl _ _ rfl hX19 rfl ?_)
            refine (both_v hG19 hC19 ld).mono ?_
            rintro e w20 ⟨v20, rfl, hb20, hQ20⟩
            have hx20 := (hb20.block _ (Array.getElem?_eq_some_iff.1 hx19).1).trans hx19
            have hk20 := (hb20.block _ (Array.getElem?_eq_some_iff.1 hk19).1).trans hk19
            have hX20 := (hb20.block _ (Array.getElem?_eq_some_iff.1 hX19).1).trans hX19
            have hB20 := hB19.below hb20
            have hC20 := hC19.below hb20
            have hH20 := hH19.below hb20
            have hG20 := hG19.below hb20
            have ha20 := ha19.trans (hb20.mono ha19.size)
            clear hx19 hk19 hX19 hB19 hC19 hH19 hG19 ha19
            clear hb20
            rw [hBo.out] at hQ20 ⊢
            obtain ⟨lb, lo, la, lc, rfl, hll, hLI20⟩ := hQ20
            have hQ20 : ListV w20 (.slice la L.length lc) L := ⟨lb, lo, la, lc, rfl, hll, hLI20⟩
            have hll2 := rising_len hLr
            have hxc20 := cells_of hx20
            have hxl20 := (Array.getElem?_eq_some_iff.1 hx20).1
            clear hLI20
            go_wp2_with (fail)
            refine (climbs_v hQ20 hLr (by omega)).mono ?_
            rintro e w21 ⟨rfl, hb21⟩
            have hx21 := (hb21.block _ (Array.getElem?_eq_some_iff.1 hx20).1).trans hx20
            have hk21 := (hb21.block _ (Array.getElem?_eq_some_iff.1 hk20).1).trans hk20
            have hX21 := (hb21.block _ (Array.getElem?_eq_some_iff.1 hX20).1).trans hX20
            have hB21 := hB20.below hb21
            have hC21 := hC20.below hb21
            have hH21 := hH20.below hb21
            have hQ21 := hQ20.below hb21
            have hG21 := hG20.below hb21
            have ha21 := ha20.trans (hb21.mono ha20.size)
            clear hx20 hk20 hX20 hB20 hC20 hH20 hQ20 hG20 ha20
            clear hb21
            clear hxc20 hxl20
            obtain ⟨lb, lo, la', lc', hsl2, _, hLI21⟩ := id hQ21
            obtain ⟨rfl, rfl⟩ : la = la' ∧ lc = lc' := by simpa using hsl2
            go_wp2_with fail
            refine wp_loop (fun act W => ∃ c : Nat, c ≤ L.length ∧ LtI w21 pk pX la L.length lc ld c act W) (fun act _ => L.length - (intOf (slotOf act 29)).toNat) ?_ ?_
            · exact ⟨0, Nat.zero_le _, rfl, rfl, rfl, rfl, rfl, rfl, rfl, rfl, Below.refl _ _⟩
            · rintro act W22 ⟨c, hcl, hsz, hdf, s6, s7, s8, s11, s27, s29, hb22⟩
              rw [act_eta act 240 hsz hdf]
              simp only [show List.range 240 = [0, 1, 2, 3, 4, 5, 6, 7, 8, 9, 10, 11, 12, 13, 14, 15, 16, 17, 18, 19, 20, 21, 22, 23, 24, 25, 26, 27, 28, 29, 30, 31, 32, 33, 34, 35, 36, 37, 38, 39, 40, 41, 42, 43, 44, 45, 46, 47, 48, 49, 50, 51, 52, 53, 54, 55, 56, 57, 58, 59, 60, 61, 62, 63, 64, 65, 66, 67, 68, 69, 70, 71, 72, 73, 74, 75, 76, 77, 78, 79, 80, 81, 82, 83, 84, 85, 86, 87, 88, 89, 90, 91, 92, 93, 94, 95, 96, 97, 98, 99, 100, 101, 102, 103, 104, 105, 106, 107, 108, 109, 110, 111, 112, 113, 114, 115, 116, 117, 118, 119, 120, 121, 122, 123, 124, 125, 126, 127, 128, 129, 130, 131, 132, 133, 134, 135, 136, 137, 138, 139, 140, 141, 142, 143, 144, 145, 146, 147, 148, 149, 150, 151, 152, 153, 154, 155, 156, 157, 158, 159, 160, 161, 162, 163, 164, 165, 166, 167, 168, 169, 170, 171, 172, 173, 174, 175, 176, 177, 178, 179, 180, 181, 182, 183, 184, 185, 186, 187, 188, 189, 190, 191, 192, 193, 194, 195, 196, 197, 198, 199, 200, 201, 202, 203, 204, 205, 206, 207, 208, 209, 210, 211, 212, 213, 214, 215, 216, 217, 218, 219, 220, 221, 222, 223, 224, 225, 226, 227, 228, 229, 230, 231, 232, 233, 234, 235, 236, 237, 238, 239] from rfl, List.map_cons, List.map_nil, s6, s7, s8, s11, s27, s29]
              have hx22 := (hb22.block _ (Array.getElem?_eq_some_iff.1 hx21).1).trans hx21
              have hk22 := (hb22.block _ (Array.getElem?_eq_some_iff.1 hk21).1).trans hk21
              have hX22 := (hb22.block _ (Array.getElem?_eq_some_iff.1 hX21).1).trans hX21
              have hB22 := hB21.below hb22
              have hC22 := hC21.below hb22
              have hH22 := hH21.below hb22
              have hQ22 := hQ21.below hb22
              have hG22 := hG21.below hb22
              have ha22 := ha21.trans (hb22.mono ha21.size)
              by_cases hcl : c < L.length
              · have hcl' : (c : Int) < (L.length : Int) := by omega
                have hLI22 := hLI21.same (Same.of_below hb22)
                have hW21 := hb22
                have hj40 := fun W => idx40 (n := L.length) (c := lc) (k := c) W (hLI22.at_ (ne_nil_of_lt hcl)) hcl
                obtain ⟨x, hxe⟩ : ∃ x, Hid (L[c] = x) := ⟨_, Lib.hid rfl⟩
                have hxm : x ∈ L := hxe.out ▸ List.getElem_mem hcl
                obtain ⟨hx0, hx1⟩ := hLr.2 x hxm
                obtain ⟨hA0, hA1⟩ := hL2 x hxm
                have hA0 := Lib.hid hA0
                have hA1 := Lib.hid hA1
                have hkl22 := (Array.getElem?_eq_some_iff.1 hk22).1
                have hXl22 := (Array.getElem?_eq_some_iff.1 hX22).1
                clear hL2
                go_wp2_with fail
                refine rg_region rdLt28 pureLt28 (gLt28 X xa xc ya yc hs ha hc fl0 fl1 em la L lc lb lo c x ld) BR (by kernel_rfl) (by kernel_rfl) (fun n => BR.drawn _ n) BR.refl (fun _ _ _ => BR.trans) ?_ ?_ ?_
                · intro i hi vs wA wB hG hR
                  match i, hi, hG with
                  | 0, _, hG => exact hG
                  | 1, _, hG => exact hG
                  | 2, _, hG => exact hG
                  | 3, _, hG => exact hG
                  | 4, _, hG => exact hG
                  | 5, _, hG => exact hG
                  | 6, _, hG => exact hG
                  | 7, _, hG => exact hG
                  | 8, _, hG => exact hG
                  | 9, _, hG => exact hG
                  | 10, _, hG => exact hG
                  | 11, _, hG => exact hG
                  | 12, _, hG => exact hG
                  | 13, _, hG => exact hG
                  | 14, _, hG => exact hG
                  | 15, _, hG => exact hG
                  | 16, _, hG => exact hG
                  | 17, _, hG => exact hG
                  | 18, _, hG => exact hG
                  | 19, _, hG => exact hG
                  | _ + 20, _, _ => trivial
                · intro i op ho act wA hR hF hD
                  have sz : act.tmps.size = 240 := hF.size
                  match i, ho, hD with
                  | 0, ho, hD =>
                    cases ho
                    have e8 := slot_tmps (show slotOf act 8 = .pointer (some ⟨pX, 0, none⟩) from hF.slot 8 (by kernel_rfl))
                    refine rgw_val (wanted_none rfl) (.agg (bookCells X xa xc ya yc)) (by exact ex_load_row (a := act) 30 (.tmp 8) rfl pX (show slotOf act 8 = .pointer (some ⟨pX, 0, none⟩) from hF.slot 8 (by kernel_rfl)) 30 _ (0, 0) _ ((Below.block hR _ hXl22).trans hX22) Tryd.underlying30 rfl (by rw [size30]; rfl)) (BR.refl _) ?_
                    exact congrArg (fun v => [v]) (slotOf_same act 219 _ (by omega))
                  | 1, ho, hD =>
                    cases ho
                    have e7 := slot_tmps (show slotOf act 7 = .pointer (some ⟨pk, 0, none⟩) from hF.slot 7 (by kernel_rfl))
                    refine rgw_val (wanted_none rfl) (.agg #[.slice ha hs.length hc, i64 fl0, i64 fl1, i64 em]) (by exact ex_load_row (a := act) 43 (.tmp 7) rfl pk (show slotOf act 7 = .pointer (some ⟨pk, 0, none⟩) from hF.slot 7 (by kernel_rfl)) 43 _ (0, 0) _ ((Below.block hR _ hkl22).trans hk22) Tryd.underlying43 rfl (by rw [size43]; rfl)) (BR.refl _) ?_
                    exact congrArg (fun v => [v]) (slotOf_same act 220 _ (by omega))
                  | 2, ho, hD =>
                    cases ho
                    have e27 := slot_tmps (show slotOf act 27 = .slice la L.length lc from hF.slot 27 (by kernel_rfl))
                    refine rgw_val (wanted_none rfl) (.slice la L.length lc) (by simp [go_sem, e27]) (BR.refl _) ?_
                    exact congrArg (fun v => [v]) (slotOf_same act 221 _ (by omega))
                  | 3, ho, hD =>
                    cases ho
                    have e29 := slot_tmps (show slotOf act 29 = i64 c from hF.slot 29 (by kernel_rfl))
                    refine rgw_val (wanted_none rfl) (i64 c) (by simp [go_sem, e29]) (BR.refl _) ?_
                    exact congrArg (fun v => [v]) (slotOf_same act 222 _ (by omega))
                  | 4, ho, hD =>
                    cases ho
                    have e221 := slot_tmps (List.cons.inj (hD 2 (by decide))).1
                    have e222 := slot_tmps (List.cons.inj (hD 3 (by decide))).1
                    refine rgw_val (wanted_none rfl) (.pointer (some ⟨lb, lo + c, none⟩)) (by simp [go_sem, e221, e222, hj40]) (BR.refl _) ?_
                    exact congrArg (fun v => [v]) (slotOf_same act 223 _ (by omega))
                  | 5, ho, hD =>
                    cases ho
                    have e223 := slot_tmps (List.cons.inj (hD 4 (by decide))).1
                    have hLA := hLI22.same (Same.of_below (Below.mono hR hW21.size))
                    have hlc2 := hLA.cell c hcl
                    rw [hxe.out] at hlc2
                    refine rgw_val (wanted_none rfl) (i64 x) (by simp [go_sem, e223, hlc2]) (BR.refl _) ?_
                    exact congrArg (fun v => [v]) (slotOf_same act 224 _ (by omega))
                  | 6, ho, hD =>
                    cases ho
                    have e11 := slot_tmps (show slotOf act 11 = i64 ld from hF.slot 11 (by kernel_rfl))
                    refine rgw_val (wanted_none rfl) (i64 ld) (by simp [go_sem, e11]) (BR.refl _) ?_
                    exact congrArg (fun v => [v]) (slotOf_same act 225 _ (by omega))
                  | 7, ho, hD =>
                    cases ho
                    have e219 := slot_tmps (List.cons.inj (hD 0 (by decide))).1
                    have e220 := slot_tmps (List.cons.inj (hD 1 (by decide))).1
                    have e224 := slot_tmps (List.cons.inj (hD 5 (by decide))).1
                    have e225 := slot_tmps (List.cons.inj (hD 6 (by decide))).1
                    refine rgw_call (wanted_none rfl) 32 #[bookVal X xa xc ya yc, .agg #[.slice ha hs.length hc, i64 fl0, i64 fl1, i64 em], i64 0, i64 x, i64 ld] (by simp [go_sem, e219, e220, e224, e225]) rfl ?_
                    refine (hAf _ (hC22.below hR) (hH22.below hR) 0 x ld (by decide) hx0 hx1 hld0 hld1).mono ?_
                    rintro e wB ⟨rfl, hb⟩
                    rw [hA0.out]
                    exact ⟨_, rfl, hb, congrArg (fun v => [v]) (slotOf_same act 226 _ (by omega))⟩
                  | 8, ho, hD =>
                    cases ho
                    have e226 := slot_tmps (List.cons.inj (hD 7 (by decide))).1
                    refine rgw_val (wanted_none rfl) (.bool false) (by simp [go_sem, e226]) (BR.refl _) ?_
                    exact congrArg (fun v => [v]) (slotOf_same act 227 _ (by omega))
                  | 9, ho, hD =>
                    cases ho
                    have e227 := slot_tmps (List.cons.inj (hD 8 (by decide))).1
                    refine rgw_val (wanted_none rfl) (.bool false) (by simp [go_sem, e227]) (BR.refl _) ?_
                    exact congrArg (fun v => [v]) (slotOf_same act 228 _ (by omega))
                  | 10, ho, hD =>
                    cases ho
                    have dj : slotOf act 228 = .bool false := (List.cons.inj (hD 9 (by decide))).1
                    have e8 := slot_tmps (show slotOf act 8 = .pointer (some ⟨pX, 0, none⟩) from hF.slot 8 (by kernel_rfl))
                    refine rgw_val (by rw [wanted_of (d := 228) rfl rfl dj]; rfl) (.agg (bookCells X xa xc ya yc)) (by exact ex_load_row (a := act) 30 (.tmp 8) rfl pX (show slotOf act 8 = .pointer (some ⟨pX, 0, none⟩) from hF.slot 8 (by kernel_rfl)) 30 _ (0, 0) _ ((Below.block hR _ hXl22).trans hX22) Tryd.underlying30 rfl (by rw [size30]; rfl)) (BR.refl _) ?_
                    exact congrArg (fun v => [v]) (slotOf_same act 229 _ (by omega))
                  | 11, ho, hD =>
                    cases ho
                    have dj : slotOf act 228 = .bool false := (List.cons.inj (hD 9 (by decide))).1
                    have e7 := slot_tmps (show slotOf act 7 = .pointer (some ⟨pk, 0, none⟩) from hF.slot 7 (by kernel_rfl))
                    refine rgw_val (by rw [wanted_of (d := 228) rfl rfl dj]; rfl) (.agg #[.slice ha hs.length hc, i64 fl0, i64 fl1, i64 em]) (by exact ex_load_row (a := act) 43 (.tmp 7) rfl pk (show slotOf act 7 = .pointer (some ⟨pk, 0, none⟩) from hF.slot 7 (by kernel_rfl)) 43 _ (0, 0) _ ((Below.block hR _ hkl22).trans hk22) Tryd.underlying43 rfl (by rw [size43]; rfl)) (BR.refl _) ?_
                    exact congrArg (fun v => [v]) (slotOf_same act 230 _ (by omega))
                  | 12, ho, hD =>
                    cases ho
                    have dj : slotOf act 228 = .bool false := (List.cons.inj (hD 9 (by decide))).1
                    have e27 := slot_tmps (show slotOf act 27 = .slice la L.length lc from hF.slot 27 (by kernel_rfl))
                    refine rgw_val (by rw [wanted_of (d := 228) rfl rfl dj]; rfl) (.slice la L.length lc) (by simp [go_sem, e27]) (BR.refl _) ?_
                    exact congrArg (fun v => [v]) (slotOf_same act 231 _ (by omega))
                  | 13, ho, hD =>
                    cases ho
                    have dj : slotOf act 228 = .bool false := (List.cons.inj (hD 9 (by decide))).1
                    have e29 := slot_tmps (show slotOf act 29 = i64 c from hF.slot 29 (by kernel_rfl))
                    refine rgw_val (by rw [wanted_of (d := 228) rfl rfl dj]; rfl) (i64 c) (by simp [go_sem, e29]) (BR.refl _) ?_
                    exact congrArg (fun v => [v]) (slotOf_same act 232 _ (by omega))
                  | 14, ho, hD =>
                    cases ho
                    have dj : slotOf act 228 = .bool false := (List.cons.inj (hD 9 (by decide))).1
                    have e231 := slot_tmps (List.cons.inj (hD 12 (by decide))).1
                    have e232 := slot_tmps (List.cons.inj (hD 13 (by decide))).1
                    refine rgw_val (by rw [wanted_of (d := 228) rfl rfl dj]; rfl) (.pointer (some ⟨lb, lo + c, none⟩)) (by simp [go_sem, e231, e232, hj40]) (BR.refl _) ?_
                    exact congrArg (fun v => [v]) (slotOf_same act 233 _ (by omega))
                  | 15, ho, hD =>
                    cases ho
                    have dj : slotOf act 228 = .bool false := (List.cons.inj (hD 9 (by decide))).1
                    have e233 := slot_tmps (List.cons.inj (hD 14 (by decide))).1
                    have hLA := hLI22.same (Same.of_below (Below.mono hR hW21.size))
                    have hlc2 := hLA.cell c hcl
                    rw [hxe.out] at hlc2
                    refine rgw_val (by rw [wanted_of (d := 228) rfl rfl dj]; rfl) (i64 x) (by simp [go_sem, e233, hlc2]) (BR.refl _) ?_
                    exact congrArg (fun v => [v]) (slotOf_same act 234 _ (by omega))
                  | 16, ho, hD =>
                    cases ho
                    have dj : slotOf act 228 = .bool false := (List.cons.inj (hD 9 (by decide))).1
                    have e11 := slot_tmps (show slotOf act 11 = i64 ld from hF.slot 11 (by kernel_rfl))
                    refine rgw_val (by rw [wanted_of (d := 228) rfl rfl dj]; rfl) (i64 ld) (by simp [go_sem, e11]) (BR.refl _) ?_
                    exact congrArg (fun v => [v]) (slotOf_same act 235 _ (by omega))
                  | 17, ho, hD =>
                    cases ho
                    have dj : slotOf act 228 = .bool false := (List.cons.inj (hD 9 (by decide))).1
                    have e229 := slot_tmps (List.cons.inj (hD 10 (by decide))).1
                    have e230 := slot_tmps (List.cons.inj (hD 11 (by decide))).1
                    have e234 := slot_tmps (List.cons.inj (hD 15 (by decide))).1
                    have e235 := slot_tmps (List.cons.inj (hD 16 (by decide))).1
                    refine rgw_call (by rw [wanted_of (d := 228) rfl rfl dj]; rfl) 32 #[bookVal X xa xc ya yc, .agg #[.slice ha hs.length hc, i64 fl0, i64 fl1, i64 em], i64 1, i64 x, i64 ld] (by simp [go_sem, e229, e230, e234, e235]) rfl ?_
                    refine (hAf _ (hC22.below hR) (hH22.below hR) 1 x ld (by decide) hx0 hx1 hld0 hld1).mono ?_
                    rintro e wB ⟨rfl, hb⟩
                    rw [hA1.out]
                    exact ⟨_, rfl, hb, congrArg (fun v => [v]) (slotOf_same act 236 _ (by omega))⟩
                  | 18, ho, hD =>
                    cases ho
                    have dj : slotOf act 228 = .bool false := (List.cons.inj (hD 9 (by decide))).1
                    have e236 := slot_tmps (List.cons.inj (hD 17 (by decide))).1
                    refine rgw_val (by rw [wanted_of (d := 228) rfl rfl dj]; rfl) (.bool false) (by simp [go_sem, e236]) (BR.refl _) ?_
                    exact congrArg (fun v => [v]) (slotOf_same act 237 _ (by omega))
                  | 19, ho, hD =>
                    cases ho
                    have e228 := slot_tmps (List.cons.inj (hD 9 (by decide))).1
                    have e237 := slot_tmps (List.cons.inj (hD 18 (by decide))).1
                    refine rgw_val (wanted_none rfl) (.bool false) (by simp [go_sem, e228, e237]) (BR.refl _) ?_
                    exact congrArg (fun v => [v]) (slotOf_same act 238 _ (by omega))
                  | _ + 20, ho, _ => cases ho
                · intro act wA hR hF hA
                  have f6 : slotOf act 6 = .bool false := hF.slot 6 (by kernel_rfl)
                  have f7 : slotOf act 7 = .pointer (some ⟨pk, 0, none⟩) := hF.slot 7 (by kernel_rfl)
                  have f8 : slotOf act 8 = .pointer (some ⟨pX, 0, none⟩) := hF.slot 8 (by kernel_rfl)
                  have f11 : slotOf act 11 = i64 ld := hF.slot 11 (by kernel_rfl)
                  have f27 : slotOf act 27 = .slice la L.length lc := hF.slot 27 (by kernel_rfl)
                  have f29 : slotOf act 29 = i64 c := hF.slot 29 (by kernel_rfl)
                  have f219 : slotOf act 219 = .agg (bookCells X xa xc ya yc) := (List.cons.inj (hA 0 (by decide))).1
                  have f220 : slotOf act 220 = .agg #[.slice ha hs.length hc, i64 fl0, i64 fl1, i64 em] := (List.cons.inj (hA 1 (by decide))).1
                  have f221 : slotOf act 221 = .slice la L.length lc := (List.cons.inj (hA 2 (by decide))).1
                  have f222 : slotOf act 222 = i64 c := (List.cons.inj (hA 3 (by decide))).1
                  have f223 : slotOf act 223 = .pointer (some ⟨lb, lo + c, none⟩) := (List.cons.inj (hA 4 (by decide))).1
                  have f224 : slotOf act 224 = i64 x := (List.cons.inj (hA 5 (by decide))).1
                  have f225 : slotOf act 225 = i64 ld := (List.cons.inj (hA 6 (by decide))).1
                  have f226 : slotOf act 226 = .bool true := (List.cons.inj (hA 7 (by decide))).1
                  have f227 : slotOf act 227 = .bool false := (List.cons.inj (hA 8 (by decide))).1
                  have f228 : slotOf act 228 = .bool false := (List.cons.inj (hA 9 (by decide))).1
                  have f229 : slotOf act 229 = .agg (bookCells X xa xc ya yc) := (List.cons.inj (hA 10 (by decide))).1
                  have f230 : slotOf act 230 = .agg #[.slice ha hs.length hc, i64 fl0, i64 fl1, i64 em] := (List.cons.inj (hA 11 (by decide))).1
                  have f231 : slotOf act 231 = .slice la L.length lc := (List.cons.inj (hA 12 (by decide))).1
                  have f232 : slotOf act 232 = i64 c := (List.cons.inj (hA 13 (by decide))).1
                  have f233 : slotOf act 233 = .pointer (some ⟨lb, lo + c, none⟩) := (List.cons.inj (hA 14 (by decide))).1
                  have f234 : slotOf act 234 = i64 x := (List.cons.inj (hA 15 (by decide))).1
                  have f235 : slotOf act 235 = i64 ld := (List.cons.inj (hA 16 (by decide))).1
                  have f236 : slotOf act 236 = .bool true := (List.cons.inj (hA 17 (by decide))).1
                  have f237 : slotOf act 237 = .bool false := (List.cons.inj (hA 18 (by decide))).1
                  have f238 : slotOf act 238 = .bool false := (List.cons.inj (hA 19 (by decide))).1
                  rw [act_eta act 240 hF.size hF.defers]
                  simp only [show List.range 240 = [0, 1, 2, 3, 4, 5, 6, 7, 8, 9, 10, 11, 12, 13, 14, 15, 16, 17, 18, 19, 20, 21, 22, 23, 24, 25, 26, 27, 28, 29, 30, 31, 32, 33, 34, 35, 36, 37, 38, 39, 40, 41, 42, 43, 44, 45, 46, 47, 48, 49, 50, 51, 52, 53, 54, 55, 56, 57, 58, 59, 60, 61, 62, 63, 64, 65, 66, 67, 68, 69, 70, 71, 72, 73, 74, 75, 76, 77, 78, 79, 80, 81, 82, 83, 84, 85, 86, 87, 88, 89, 90, 91, 92, 93, 94, 95, 96, 97, 98, 99, 100, 101, 102, 103, 104, 105, 106, 107, 108, 109, 110, 111, 112, 113, 114, 115, 116, 117, 118, 119, 120, 121, 122, 123, 124, 125, 126, 127, 128, 129, 130, 131, 132, 133, 134, 135, 136, 137, 138, 139, 140, 141, 142, 143, 144, 145, 146, 147, 148, 149, 150, 151, 152, 153, 154, 155, 156, 157, 158, 159, 160, 161, 162, 163, 164, 165, 166, 167, 168, 169, 170, 171, 172, 173, 174, 175, 176, 177, 178, 179, 180, 181, 182, 183, 184, 185, 186, 187, 188, 189, 190, 191, 192, 193, 194, 195, 196, 197, 198, 199, 200, 201, 202, 203, 204, 205, 206, 207, 208, 209, 210, 211, 212, 213, 214, 215, 216, 217, 218, 219, 220, 221, 222, 223, 224, 225, 226, 227, 228, 229, 230, 231, 232, 233, 234, 235, 236, 237, 238, 239] from rfl, List.map_cons, List.map_nil, f6, f7, f8, f11, f27, f29, f219, f220, f221, f222, f223, f224, f225, f226, f227, f228, f229, f230, f231, f232, f233, f234, f235, f236, f237, f238]
                  clear hA hF f6 f7 f8 f11 f27 f29 f219 f220 f221 f222 f223 f224 f225 f226 f227 f228 f229 f230 f231 f232 f233 f234 f235 f236 f237 f238
                  have hb23 := hb22.trans (Below.mono hR hb22.size)
                  clear hR
                  go_wp2_with fail
                  refine ⟨⟨c + 1, by omega, rfl, rfl, rfl, rfl, rfl, rfl, rfl, congrArg (Value.int .i64) (Int.natCast_succ c).symm, hb23⟩, ?_⟩
                  show L.length - ((c : Int) + 1).toNat < L.length - (c : Int).toNat
                  omega
              · have hcl' : ¬ (c : Int) < (L.length : Int) := by omega
                go_wp2_with (go_at_call 18; refine (moored_any _ hG22).mono ?_; rintro e w23 ⟨rfl, hb23⟩)
                go_ret
                exact ⟨rfl, ha22.trans (hb23.mono ha22.size)⟩
theorem LTrue_v {B : Book} {v lv : Value} {bits : List Int} {w : World} (hG : GA w) (hB : BookV w v B) (hL : ListV w lv bits) (n0 n1 n2 : Int) : Calls Tryd.prog 6 #[v, lv, .agg #[i64 n0, i64 n1, i64 n2]] w (MoorPost w) := by
  obtain ⟨tb, tq, ta, tc, sb, sq, sa, sc, rfl, hT, hS⟩ := hB
  exact LTrue_any B tb tq ta tc sb sq sa sc lv bits n0 n1 n2 w hG hT hS hL
end Go.Proofs.YtkbmpkdflgimmaaDoor
