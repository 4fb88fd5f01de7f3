/- LandingHigher answers true of every book and of all numbers. (Printed by genhigher.py.) -/
import Derived.Test.YtkbmpkdflgimmaaDoorPure9
import Derived.Test.YtkbmpkdflgimmaaDoorRL
import Derived.Test.YtkbmpkdflgimmaaDoorEndsI
namespace Go.Proofs.YtkbmpkdflgimmaaDoor
open Go.RowKit Go.Shelf

/-- The tides that have been moved so far. -/
def tkUp (B : Book) (n : Int) (k : Nat) : List Span := (B.tides.take k).map (upT n)
theorem tkUp_succ (B : Book) (n : Int) (k : Nat) (h : k < B.tides.length) : tkUp B n (k + 1) = tkUp B n k ++ [⟨(tideAt B k).lo + n, (tideAt B k).hi + n⟩] := by
  unfold tkUp
  rw [List.take_succ_eq_append_getElem h, List.map_append, tideAt_nat h]
  rfl
theorem tkUp_len (B : Book) (n : Int) (k : Nat) (h : k ≤ B.tides.length) : (tkUp B n k).length = k := by simp [tkUp]; omega
/-- What the first loop's rounds keep. -/
structure HigI (w : World) (B : Book) (sa : Option Addr) (sc y z : Nat) (s hr ld n : Int) (k : Nat) (v : Value) (a : Act) (W7 W : World) : Prop where
  size : a.tmps.size = 249
  defers : a.defers = []
  s2 : slotOf a 2 = .pointer (some ⟨w.heap.size, 0, none⟩)
  s4 : slotOf a 4 = .bool false
  s5 : slotOf a 5 = i64 s
  s6 : slotOf a 6 = i64 hr
  s7 : slotOf a 7 = i64 ld
  s8 : slotOf a 8 = i64 n
  s9 : slotOf a 9 = .pointer (some ⟨y, 0, none⟩)
  s10 : slotOf a 10 = i64 k
  hz : z ≤ W.heap.size
  hb : Below y W7 W
  hy : W.heap[y]? = some (.cells (withT B v sa sc) 30 (0, 0))
  own : W.ownsRow z 24 2 v k (flatT (tkUp B n k))
/-- The copy of the book when j shores have been moved. -/
def cellsJ (B : Book) (n : Int) (v : Value) (sa : Option Addr) (sc : Nat) : Nat → Array Value
  | 0 => #[v, i64 B.s0.fl, i64 B.s0.fh, i64 B.s0.lo, i64 B.s0.hi, i64 B.s1.fl, i64 B.s1.fh, i64 B.s1.lo, i64 B.s1.hi, i64 B.el, i64 B.eh, i64 B.sink, i64 B.under, .slice sa B.sounds.length sc]
  | 1 => #[v, i64 (B.s0.fl + n), i64 (B.s0.fh + n), i64 (B.s0.lo + n), i64 (B.s0.hi + n), i64 B.s1.fl, i64 B.s1.fh, i64 B.s1.lo, i64 B.s1.hi, i64 B.el, i64 B.eh, i64 B.sink, i64 B.under, .slice sa B.sounds.length sc]
  | _ => #[v, i64 (B.s0.fl + n), i64 (B.s0.fh + n), i64 (B.s0.lo + n), i64 (B.s0.hi + n), i64 (B.s1.fl + n), i64 (B.s1.fh + n), i64 (B.s1.lo + n), i64 (B.s1.hi + n), i64 B.el, i64 B.eh, i64 B.sink, i64 B.under, .slice sa B.sounds.length sc]
/-- What the second loop's rounds keep. -/
structure HigJ (w : World) (B : Book) (ta : Option Addr) (tc : Nat) (sa : Option Addr) (sc y : Nat) (s hr ld n : Int) (v : Value) (gb : Nat) (ga : Option Addr) (j : Nat) (a : Act) (W7 W : World) : Prop where
  size : a.tmps.size = 249
  defers : a.defers = []
  s2 : slotOf a 2 = .pointer (some ⟨w.heap.size, 0, none⟩)
  s4 : slotOf a 4 = .bool false
  s5 : slotOf a 5 = i64 s
  s6 : slotOf a 6 = i64 hr
  s7 : slotOf a 7 = i64 ld
  s8 : slotOf a 8 = i64 n
  s9 : slotOf a 9 = .pointer (some ⟨y, 0, none⟩)
  s11 : slotOf a 11 = i64 j
  hb : Below y W7 W
  hy : W.heap[y]? = some (.cells (cellsJ B n v sa sc j) 30 (0, 0))
  hT : SpansAt W.heap.size W gb 0 ga (upB B n).tides
theorem spans_but {W W' : World} {y b o : Nat} {a : Option Addr} {l : List Span} (h : SpansAt W.heap.size W b o a l) (hb : l ≠ [] → b ≠ y) (h1 : ∀ k, k ≠ y → W'.heap[k]? = W.heap[k]?) (h2 : W'.heap.size = W.heap.size) : SpansAt W'.heap.size W' b o a l := by
  refine ⟨h.len, h.at_, fun hne => by rw [h2]; exact h.lt hne, fun k hk => ?_, fun k hk => ?_⟩
  · exact (World.cell?_of_block (w := W) (h1 b (hb (ne_nil_of_lt hk)))).trans (h.lo k hk)
  · exact (World.cell?_of_block (w := W) (h1 b (hb (ne_nil_of_lt hk)))).trans (h.hi k hk)
theorem set4 {W : World} {y : Nat} {cs : Array Value} (h : W.heap[y]? = some (.cells cs 30 (0, 0))) (o : Nat) (a b c d : Value) :
    ((((W.setCell ⟨y, o, none⟩ a).setCell ⟨y, o + 1, none⟩ b).setCell ⟨y, o + 2, none⟩ c).setCell ⟨y, o + 3, none⟩ d).heap[y]? = some (.cells ((((cs.setIfInBounds o a).setIfInBounds (o + 1) b).setIfInBounds (o + 2) c).setIfInBounds (o + 3) d) 30 (0, 0)) ∧
    (∀ k, k ≠ y → ((((W.setCell ⟨y, o, none⟩ a).setCell ⟨y, o + 1, none⟩ b).setCell ⟨y, o + 2, none⟩ c).setCell ⟨y, o + 3, none⟩ d).heap[k]? = W.heap[k]?) ∧
    ((((W.setCell ⟨y, o, none⟩ a).setCell ⟨y, o + 1, none⟩ b).setCell ⟨y, o + 2, none⟩ c).setCell ⟨y, o + 3, none⟩ d).heap.size = W.heap.size ∧
    ∀ m w, m ≤ y → Below m w W → Below m w ((((W.setCell ⟨y, o, none⟩ a).setCell ⟨y, o + 1, none⟩ b).setCell ⟨y, o + 2, none⟩ c).setCell ⟨y, o + 3, none⟩ d) := by
  refine ⟨set_book' _ (set_book' _ (set_book' _ (set_book' _ h _) _) _) _, fun k hk => ?_, by simp [World.setCell], fun m w hm hb => ?_⟩
  · exact (Below.heap_setCell _ ⟨y, o + 3, none⟩ _ k hk).trans ((Below.heap_setCell _ ⟨y, o + 2, none⟩ _ k hk).trans ((Below.heap_setCell _ ⟨y, o + 1, none⟩ _ k hk).trans (Below.heap_setCell _ ⟨y, o, none⟩ _ k hk)))
  · exact (((hb.setCell (p := ⟨y, o, none⟩) hm _).setCell (p := ⟨y, o + 1, none⟩) hm _).setCell (p := ⟨y, o + 2, none⟩) hm _).setCell (p := ⟨y, o + 3, none⟩) hm _
theorem box30y (w : World) (cs : Array Value) : Below w.heap.size w ((w.alloc (.cells zero30 30)).setRow w.heap.size cs) ∧ ((w.alloc (.cells zero30 30)).setRow w.heap.size cs).heap[w.heap.size]? = some (.cells cs 30 (0, 0)) :=
  ⟨(SetAt.row _ _ cs).below (Nat.le_refl _) ((Below.refl _ w).alloc (Nat.le_refl _) _), setRow_heap _ _ _ _ _ _ (heap_alloc_new w _)⟩
def rdHi9 (i : Nat) : List Nat := match i with
  | 0 => [59] | 1 => [60] | 2 => [61] | 3 => [62] | 4 => [63] | 5 => [64] | 6 => [65] | 7 => [66] | 8 => [67] | 9 => [68] | _ => []
def pureHi9 (i : Nat) : Bool := match i with
  | 8 => false | 9 => false | _ => true
def gHi9 (w : World) (B : Book) (ta : Option Addr) (tc tb tq y k : Nat) (v : Value) (n : Int) (i : Nat) (vs : List Value) (W : World) : Prop := match i with
  | 0 => vs = [.pointer (some ⟨y, 0, none⟩)]
  | 1 => vs = [v]
  | 2 => vs = [.pointer (some ⟨w.heap.size, 0, none⟩)]
  | 3 => vs = [.slice ta B.tides.length tc]
  | 4 => vs = [i64 k]
  | 5 => vs = [.pointer (some ⟨tb, tq + k * 2, none⟩)]
  | 6 => vs = [.agg #[i64 (tideAt B k).lo, i64 (tideAt B k).hi]]
  | 7 => vs = [i64 n]
  | 8 => vs = [.agg #[i64 ((tideAt B k).lo + n), i64 ((tideAt B k).hi + n)]]
  | 9 => ∃ g, vs = [.slice (some ⟨g, 0, none⟩) 1 1] ∧ W.heap[g]? = some (.cells #[i64 ((tideAt B k).lo + n), i64 ((tideAt B k).hi + n)] 24 (0, 0))
  | _ => True
def rdHi14s0 (i : Nat) : List Nat := match i with
  | 0 => [79] | 1 => [80] | 2 => [81] | 3 => [82] | 4 => [83] | 5 => [84] | 6 => [85] | 7 => [86] | 8 => [87] | 9 => [88] | 10 => [89] | 11 => [90] | 12 => [91] | 13 => [92] | 14 => [93] | _ => []
def pureHi14s0 (i : Nat) : Bool := match i with
  | 4 => false | _ => true
def gHi14s0 (B : Book) (y g : Nat) (n : Int) (i : Nat) (vs : List Value) (_ : World) : Prop := match i with
  | 0 => vs = [i64 0]
  | 1 => vs = [.pointer (some ⟨g, 0, none⟩)]
  | 2 => vs = [.agg #[i64 B.s0.fl, i64 B.s0.fh]]
  | 3 => vs = [i64 n]
  | 4 => vs = [.agg #[i64 (B.s0.fl + n), i64 (B.s0.fh + n)]]
  | 5 => vs = [.pointer (some ⟨g, 2, none⟩)]
  | 6 => vs = [i64 B.s0.lo]
  | 7 => vs = [i64 n]
  | 8 => vs = [i64 (B.s0.lo + n)]
  | 9 => vs = [.pointer (some ⟨g, 3, none⟩)]
  | 10 => vs = [i64 B.s0.hi]
  | 11 => vs = [i64 n]
  | 12 => vs = [i64 (B.s0.hi + n)]
  | 13 => vs = [.agg #[i64 (B.s0.fl + n), i64 (B.s0.fh + n), i64 (B.s0.lo + n), i64 (B.s0.hi + n)]]
  | 14 => vs = [.pointer (some ⟨y, 1, none⟩)]
  | _ => True
def rdHi14s1 (i : Nat) : List Nat := match i with
  | 0 => [79] | 1 => [80] | 2 => [81] | 3 => [82] | 4 => [83] | 5 => [84] | 6 => [85] | 7 => [86] | 8 => [87] | 9 => [88] | 10 => [89] | 11 => [90] | 12 => [91] | 13 => [92] | 14 => [93] | _ => []
def pureHi14s1 (i : Nat) : Bool := match i with
  | 4 => false | _ => true
def gHi14s1 (B : Book) (y g : Nat) (n : Int) (i : Nat) (vs : List Value) (_ : World) : Prop := match i with
  | 0 => vs = [i64 1]
  | 1 => vs = [.pointer (some ⟨g, 0, none⟩)]
  | 2 => vs = [.agg #[i64 B.s1.fl, i64 B.s1.fh]]
  | 3 => vs = [i64 n]
  | 4 => vs = [.agg #[i64 (B.s1.fl + n), i64 (B.s1.fh + n)]]
  | 5 => vs = [.pointer (some ⟨g, 2, none⟩)]
  | 6 => vs = [i64 B.s1.lo]
  | 7 => vs = [i64 n]
  | 8 => vs = [i64 (B.s1.lo + n)]
  | 9 => vs = [.pointer (some ⟨g, 3, none⟩)]
  | 10 => vs = [i64 B.s1.hi]
  | 11 => vs = [i64 n]
  | 12 => vs = [i64 (B.s1.hi + n)]
  | 13 => vs = [.agg #[i64 (B.s1.fl + n), i64 (B.s1.fh + n), i64 (B.s1.lo + n), i64 (B.s1.hi + n)]]
  | 14 => vs = [.pointer (some ⟨y, 1, none⟩)]
  | _ => True
def rdHi20e22 (i : Nat) : List Nat := match i with
  | 0 => [116] | 1 => [117] | 2 => [118] | 3 => [119] | 4 => [120] | 5 => [121] | 6 => [122] | 7 => [123] | 8 => [124] | 9 => [125] | 10 => [126] | 11 => [127] | 12 => [128] | 13 => [129] | _ => []
def pureHi20e22 (i : Nat) : Bool := match i with
  | 10 => false | _ => true
def gHi20e22  (i : Nat) (vs : List Value) (_ : World) : Prop := match i with
  | 0 => vs = [i64 22]
  | 1 => vs = [i64 22]
  | 2 => vs = [.bool false]
  | 3 => vs = [.bool false]
  | 4 => vs = [i64 22]
  | 5 => vs = [.bool false]
  | 6 => vs = [.bool false]
  | 7 => True
  | 8 => True
  | 9 => True
  | 10 => True
  | 11 => True
  | 12 => vs = [.bool false]
  | 13 => vs = [.bool false]
  | _ => True
def rdHi20e0 (i : Nat) : List Nat := match i with
  | 0 => [116] | 1 => [117] | 2 => [118] | 3 => [119] | 4 => [120] | 5 => [121] | 6 => [122] | 7 => [123] | 8 => [124] | 9 => [125] | 10 => [126] | 11 => [127] | 12 => [128] | 13 => [129] | _ => []
def pureHi20e0 (i : Nat) : Bool := match i with
  | 10 => false | _ => true
def gHi20e0 (a b n : Int) (i : Nat) (vs : List Value) (_ : World) : Prop := match i with
  | 0 => vs = [i64 0]
  | 1 => vs = [i64 0]
  | 2 => vs = [.bool false]
  | 3 => vs = [.bool false]
  | 4 => vs = [i64 0]
  | 5 => vs = [.bool true]
  | 6 => vs = [.bool true]
  | 7 => vs = [.agg #[i64 (a + n), i64 (b + n)]]
  | 8 => vs = [.agg #[i64 a, i64 b]]
  | 9 => vs = [i64 n]
  | 10 => vs = [.agg #[i64 (a + n), i64 (b + n)]]
  | 11 => vs = [.bool false]
  | 12 => vs = [.bool false]
  | 13 => vs = [.bool false]
  | _ => True
set_option maxRecDepth 100000 in
set_option maxHeartbeats 8000000 in
theorem LHigher_any (B : Book) (tb tq : Nat) (ta : Option Addr) (tc : Nat) (sb sq : Nat) (sa : Option Addr) (sc : Nat) (n0 n1 n2 n3 : Int) (w : World) (hG : GA w) (hT : SpansAt w.heap.size w tb tq ta B.tides) (hS : SoundsAt w.heap.size w sb sq sa B.sounds) :
    Calls Tryd.prog 13 #[bookVal B ta tc sa sc, .agg #[i64 n0, i64 n1, i64 n2, i64 n3]] w (MoorPost w) := by
  have hb0 : Below w.heap.size w ((w.alloc (.cells (bookCells B ta tc sa sc) 30)).alloc (.cells #[i64 n0, i64 n1, i64 n2, i64 n3] 63)) := ((Below.refl _ w).alloc (Nat.le_refl _) _).alloc (by simp) _
  have hx0 : ((w.alloc (.cells (bookCells B ta tc sa sc) 30)).alloc (.cells #[i64 n0, i64 n1, i64 n2, i64 n3] 63)).heap[w.heap.size]? = some (.cells (bookCells B ta tc sa sc) 30 (0, 0)) := (Below.heap_alloc _ _ _ (by simp)).trans (heap_alloc_new w _)
  have hy0 : ((w.alloc (.cells (bookCells B ta tc sa sc) 30)).alloc (.cells #[i64 n0, i64 n1, i64 n2, i64 n3] 63)).heap[w.heap.size + 1]? = some (.cells #[i64 n0, i64 n1, i64 n2, i64 n3] 63 (0, 0)) := heap_alloc2_new w _ _
  have hx0l := (Array.getElem?_eq_some_iff.1 hx0).1
  have hy0l := (Array.getElem?_eq_some_iff.1 hy0).1
  have hB0 : BookV w (bookVal B ta tc sa sc) B := ⟨tb, tq, ta, tc, sb, sq, sa, sc, rfl, hT, hS⟩
  cases hv : B.valid
  · have hv := Lib.hid hv
    go_enter Tryd.func13, Tryd.ntmps13
    go_wp2_with (refine ld30 rfl _ rfl _ _ rfl hx0 rfl ?_)
    refine (sound_v (hB0.below hb0)).mono ?_
    rintro e w1 ⟨rfl, hb1⟩
    rw [hv.out]
    have ha1 := hb0.trans (hb1.mono hb0.size)
    clear hx0 hy0 hx0l hy0l hb1 hb0
    go_wp2_with fail
    refine (moored_any _ (hG.below ha1)).mono ?_
    rintro e w2 ⟨rfl, hb2⟩
    have ha2 := ha1.trans (hb2.mono ha1.size)
    go_wp2_with fail
    go_ret
    exact ⟨rfl, ha2⟩
  · have hV := valid_iff.1 hv
    have h1 := hV.h1
    have h24 := hV.h24
    have hs := modI_lt (n := n0) (m := 2) (by decide)
    have hh := modI_lt (n := n1) (m := B.tides.length) (by omega)
    have hl := modI_lt (n := n2) (m := 201) (by decide)
    have hy := modI_lt (n := n3) (m := 41) (by decide)
    have q : Qs B (modI n0 2) (modI n1 B.tides.length) (modI n2 201) := ⟨hs.1, by omega, hh.1, hh.2, hl.1, by omega⟩
    obtain ⟨n, hn'⟩ : ∃ n, modI n3 41 - 20 = n := ⟨_, rfl⟩
    have hn : -1000 ≤ n ∧ n ≤ 1000 := by omega
    have hlaw := higher_law (n := n) hv q
    obtain ⟨s, hs'⟩ : ∃ s, modI n0 2 = s := ⟨_, rfl⟩
    obtain ⟨hr, hh'⟩ : ∃ hr, modI n1 B.tides.length = hr := ⟨_, rfl⟩
    obtain ⟨ld, hl'⟩ : ∃ ld, modI n2 201 = ld := ⟨_, rfl⟩
    rw [hs', hh', hl'] at hlaw
    have hv := Lib.hid hv
    have M0 := fun W => mod_back n0 2 (by decide) W
    have M1 := fun W => mod_back n1 B.tides.length (by omega) W
    have M2 := fun W => mod_back n2 201 (by decide) W
    have M3 := fun W => mod_back n3 41 (by decide) W
    rw [hs'] at M0
    rw [hh'] at M1
    rw [hl'] at M2
    rw [show modI n3 41 = n + 20 by omega] at M3
    have hws0 : (-1000 ≤ B.s0.fl ∧ B.s0.fl ≤ 1000) ∧ (-1000 ≤ B.s0.fh ∧ B.s0.fh ≤ 1000) ∧ True := by have := hV.sh0.fl; have := hV.sh0.ff; have := hV.sh0.fh; exact ⟨⟨by omega, by omega⟩, ⟨by omega, by omega⟩, trivial⟩
    have hws1 : (-1000 ≤ B.s1.fl ∧ B.s1.fl ≤ 1000) ∧ (-1000 ≤ B.s1.fh ∧ B.s1.fh ≤ 1000) ∧ True := by have := hV.sh1.fl; have := hV.sh1.ff; have := hV.sh1.fh; exact ⟨⟨by omega, by omega⟩, ⟨by omega, by omega⟩, trivial⟩
    have hwl0 : IntKind.i64.wrap (B.s0.lo + n) = B.s0.lo + n := wrap_fit (by have := hV.sh0.lo; have := hV.sh0.lh; have := hV.sh0.hi; omega) (by have := hV.sh0.lo; have := hV.sh0.lh; have := hV.sh0.hi; omega)
    have hwh0 : IntKind.i64.wrap (B.s0.hi + n) = B.s0.hi + n := wrap_fit (by have := hV.sh0.lo; have := hV.sh0.lh; have := hV.sh0.hi; omega) (by have := hV.sh0.lo; have := hV.sh0.lh; have := hV.sh0.hi; omega)
    have hwl1 : IntKind.i64.wrap (B.s1.lo + n) = B.s1.lo + n := wrap_fit (by have := hV.sh1.lo; have := hV.sh1.lh; have := hV.sh1.hi; omega) (by have := hV.sh1.lo; have := hV.sh1.lh; have := hV.sh1.hi; omega)
    have hwh1 : IntKind.i64.wrap (B.s1.hi + n) = B.s1.hi + n := wrap_fit (by have := hV.sh1.lo; have := hV.sh1.lh; have := hV.sh1.hi; omega) (by have := hV.sh1.lo; have := hV.sh1.lh; have := hV.sh1.hi; omega)
    have hn20 : IntKind.i64.wrap (n + 20 - 20) = n := by rw [show n + 20 - 20 = n by omega]; exact wrap_fit (by omega) (by omega)
    clear hs hh hl hy hs' hh' hl' hn' q
    go_enter Tryd.func13, Tryd.ntmps13
    go_wp2_with (refine ld30 rfl _ rfl _ _ rfl hx0 rfl ?_)
    refine (sound_v (hB0.below hb0)).mono ?_
    rintro e w1 ⟨rfl, hb1⟩
    rw [hv.out]
    have ha1 := hb0.trans (hb1.mono hb0.size)
    have hx1 := (hb1.block _ hx0l).trans hx0
    have hy1 := (hb1.block _ hy0l).trans hy0
    have hxc := cells_of hx1
    have hyc := cells_of hy1
    have hxl := (Array.getElem?_eq_some_iff.1 hx1).1
    have hyl := (Array.getElem?_eq_some_iff.1 hy1).1
    clear hx0 hy0 hx0l hy0l
    go_wp2_with fail
    go_quiet ((go_at_call 24; first | with_reducible exact Calls.quiet_of_same (M0 _) | with_reducible exact Calls.quiet_of_same (M1 _) | with_reducible exact Calls.quiet_of_same (M2 _) | with_reducible exact Calls.quiet_of_same (M3 _)))
    have hG1 := hG.below ha1
    have hB1 := hB0.below ha1
    refine abs_act (fun W => Below w.heap.size w W ∧ W.heap[w.heap.size]? = some (.cells (bookCells B ta tc sa sc) 30 (0, 0)) ∧ GA W ∧ BookV W (bookVal B ta tc sa sc) B) ⟨ha1.trans (drewN_below ha1.size _), hx1, hG1.below (drewN_below (Nat.le_refl _) _), hB1.below (drewN_below (Nat.le_refl _) _)⟩ ?_
    clear hG1 hB1 ha1 hx1 hy1 hxc hyc hxl hyl hb1 hb0 M0 M1 M2 M3 hn20
    rintro w2 ⟨ha2, hx2, hG2, hB2⟩
    have hz2 := heap_alloc_new w2 (.cells zero30 30)
    have hst := SetAt.row (w2.alloc (.cells zero30 30)) w2.heap.size (bookCells B ta tc sa sc)
    have hy3 : ((w2.alloc (.cells zero30 30)).setRow w2.heap.size (bookCells B ta tc sa sc)).heap[w2.heap.size]? = some (.cells (bookCells B ta tc sa sc) 30 (0, 0)) := setRow_heap _ _ _ _ _ _ hz2
    have hyc3 := cells_of hy3
    have hyf3 := frozen_of hy3
    have hyl3 := (Array.getElem?_eq_some_iff.1 hy3).1
    have hb3 := hst.below (Nat.le_refl _) ((Below.refl _ w2).alloc (Nat.le_refl _) (.cells zero30 30))
    have hsz3 : w2.heap.size + 1 ≤ ((w2.alloc (.cells zero30 30)).setRow w2.heap.size (bookCells B ta tc sa sc)).heap.size := by rw [hst.size]; simp
    go_wp2_with (first | (refine ld30 rfl _ rfl _ _ rfl hx2 rfl ?_) | (refine st30 rfl _ _ rfl _ (bookCells B ta tc sa sc) zero30 rfl rfl hz2 rfl rfl (by simp [Value.oneCell']) ?_))
    have hb4 := hb3.setCell (p := ⟨w2.heap.size, 0, none⟩) (Nat.le_refl _) (.slice none 0 0)
    have hy4 := set_book' 0 hy3 (.slice none 0 0)
    have hsz4 : w2.heap.size + 1 ≤ (((w2.alloc (.cells zero30 30)).setRow w2.heap.size (bookCells B ta tc sa sc)).setCell ⟨w2.heap.size, 0, none⟩ (.slice none 0 0)).heap.size := by simp
    obtain ⟨w4, hw4⟩ : ∃ w4, ((w2.alloc (.cells zero30 30)).setRow w2.heap.size (bookCells B ta tc sa sc)).setCell ⟨w2.heap.size, 0, none⟩ (.slice none 0 0) = w4 := ⟨_, rfl⟩
    rw [hw4] at hb4 hy4 hsz4 ⊢
    have hx2l := (Array.getElem?_eq_some_iff.1 hx2).1
    have hGy : ∀ W, Below w2.heap.size w2 W → GA W := fun W h => hG2.below h
    have hxy : ∀ W, Below w2.heap.size w2 W → W.heap[w.heap.size]? = some (.cells (bookCells B ta tc sa sc) 30 (0, 0)) := fun W h => (h.block _ hx2l).trans hx2
    have hay : ∀ W, Below w2.heap.size w2 W → Below w.heap.size w W := fun W h => ha2.trans (h.mono ha2.size)
    have hwy : w.heap.size < w2.heap.size := hx2l
    obtain ⟨y, hye⟩ : ∃ y, w2.heap.size = y := ⟨_, rfl⟩
    rw [hye] at hb4 hy4 hsz4 hGy hxy hay hwy ⊢
    clear hw4 hz2 hst hy3 hyc3 hyf3 hyl3 hb3 hsz3 hx2l hx2 hG2 hB2 ha2 hye
    refine wp_loop (fun act W => ∃ (k : Nat) (v : Value), k ≤ B.tides.length ∧ HigI w B sa sc y (y + 1) s hr ld n k v act w2 W) (fun act _ => B.tides.length - (intOf (slotOf act 10)).toNat) ?_ ?_
    · exact ⟨0, .slice none 0 0, Nat.zero_le _, rfl, rfl, rfl, rfl, rfl, rfl, rfl, rfl, rfl, rfl, hsz4, hb4, hy4, World.ownsRow_nil _ _ _ _⟩
    · clear hb4 hy4 hsz4
      rintro act W9 ⟨k, v, hk, hsz, hdf, s2, s4, s5, s6, s7, s8, s9, s10, hz9, hb9, hy9, hown⟩
      rw [act_eta act 249 hsz hdf]
      simp only [show List.range 249 = [0, 1, 2, 3, 4, 5, 6, 7, 8, 9, 10, 11, 12, 13, 14, 15, 16, 17, 18, 19, 20, 21, 22, 23, 24, 25, 26, 27, 28, 29, 30, 31, 32, 33, 34, 35, 36, 37, 38, 39, 40, 41, 42, 43, 44, 45, 46, 47, 48, 49, 50, 51, 52, 53, 54, 55, 56, 57, 58, 59, 60, 61, 62, 63, 64, 65, 66, 67, 68, 69, 70, 71, 72, 73, 74, 75, 76, 77, 78, 79, 80, 81, 82, 83, 84, 85, 86, 87, 88, 89, 90, 91, 92, 93, 94, 95, 96, 97, 98, 99, 100, 101, 102, 103, 104, 105, 106, 107, 108, 109, 110, 111, 112, 113, 114, 115, 116, 117, 118, 119, 120, 121, 122, 123, 124, 125, 126, 127, 128, 129, 130, 131, 132, 133, 134, 135, 136, 137, 138, 139, 140, 141, 142, 143, 144, 145, 146, 147, 148, 149, 150, 151, 152, 153, 154, 155, 156, 157, 158, 159, 160, 161, 162, 163, 164, 165, 166, 167, 168, 169, 170, 171, 172, 173, 174, 175, 176, 177, 178, 179, 180, 181, 182, 183, 184, 185, 186, 187, 188, 189, 190, 191, 192, 193, 194, 195, 196, 197, 198, 199, 200, 201, 202, 203, 204, 205, 206, 207, 208, 209, 210, 211, 212, 213, 214, 215, 216, 217, 218, 219, 220, 221, 222, 223, 224, 225, 226, 227, 228, 229, 230, 231, 232, 233, 234, 235, 236, 237, 238, 239, 240, 241, 242, 243, 244, 245, 246, 247, 248] from rfl, List.map_cons, List.map_nil, s2, s4, s5, s6, s7, s8, s9, s10]
      have hx9 := hxy _ hb9
      have ha9 := hay _ hb9
      have hx9l := (Array.getElem?_eq_some_iff.1 hx9).1
      have hy9l := (Array.getElem?_eq_some_iff.1 hy9).1
      have hxc := cells_of hx9
      by_cases hlt : k < B.tides.length
      · have hlt' : (k : Int) < (B.tides.length : Int) := by omega
        have hT9 := hT.same (Same.of_below ha9)
        have htk := tideAt_nat hlt
        have hwk : (-1000 ≤ (tideAt B k).lo ∧ (tideAt B k).lo ≤ 1000) ∧ (-1000 ≤ (tideAt B k).hi ∧ (tideAt B k).hi ≤ 1000) := by
          have ht := hV.tides _ (List.getElem_mem hlt)
          rw [← htk] at ht
          exact ⟨⟨by omega, by omega⟩, by omega, by omega⟩
        have hi22 : ∀ W, (Instr.indexAt 22 (.slice ta B.tides.length tc) (.int .i64 (k : Int))).run Tryd.prog W = .ok (.pointer (some ⟨tb, tq + k * 2, none⟩)) W := fun W => idx22 W (hT9.at_ (ne_nil_of_lt hlt)) hlt
        obtain ⟨i0, hi, hi1, hi2, hi3⟩ := info_parts info24'
        have hsucc := tkUp_succ B n k hlt
        go_wp2_with fail
        refine rl_region 10 rdHi9 pureHi9 (gHi9 w B ta tc tb tq y k v n) BR (by kernel_rfl) (by kernel_rfl) (by kernel_rfl) (by kernel_rfl) (by kernel_rfl) (by kernel_rfl) (fun n => BR.drawn _ n) BR.refl (fun _ _ _ => BR.trans) ?_ ?_ ?_
        · intro i _ hi vs wA wB hG hR
          match i, hi, hG with
          | 0, _, hG => exact hG
          | 1, _, hG => exact hG
          | 2, _, hG => exact hG
          | 3, _, hG => exact hG
          | 4, _, hG => exact hG
          | 5, _, hG => exact hG
          | 6, _, hG => exact hG
          | 7, _, hG => exact hG
          | 8, _, hG => exact hG
          | 9, _, hG => obtain ⟨g, h1, h2⟩ := hG; exact ⟨g, h1, (hR.block _ (Array.getElem?_eq_some_iff.1 h2).1).trans h2⟩
          | _ + 10, _, _ => trivial
        · intro i op hin ho act wA hR hF hD
          have sz : act.tmps.size = 249 := hF.size
          match i, hin, ho, hD with
          | 0, _, ho, hD =>
            cases ho
            have e9 := slot_tmps (show slotOf act 9 = .pointer (some ⟨y, 0, none⟩) from hF.slot 9 (by kernel_rfl))
            refine rgw_val (wanted_none rfl) (.pointer (some ⟨y, 0, none⟩)) (by simp [go_sem, e9]) (BR.refl _) ?_
            exact congrArg (fun v => [v]) (slotOf_same act 59 _ (by omega))
          | 1, _, ho, hD =>
            cases ho
            have e59 := slot_tmps (List.cons.inj (hD 0 (by decide))).1
            have hyA := (Below.block hR _ hy9l).trans hy9
            have hyc := cells_of hyA
            refine rgw_val (wanted_none rfl) (v) (by simp [go_sem, e59, hyc]) (BR.refl _) ?_
            exact congrArg (fun v => [v]) (slotOf_same act 60 _ (by omega))
          | 2, _, ho, hD =>
            cases ho
            have e2 := slot_tmps (show slotOf act 2 = .pointer (some ⟨w.heap.size, 0, none⟩) from hF.slot 2 (by kernel_rfl))
            refine rgw_val (wanted_none rfl) (.pointer (some ⟨w.heap.size, 0, none⟩)) (by simp [go_sem, e2]) (BR.refl _) ?_
            exact congrArg (fun v => [v]) (slotOf_same act 61 _ (by omega))
          | 3, _, ho, hD =>
            cases ho
            have e61 := slot_tmps (List.cons.inj (hD 2 (by decide))).1
            have hxA := (Below.block hR _ hx9l).trans hx9
            have hxc := cells_of hxA
            refine rgw_val (wanted_none rfl) (.slice ta B.tides.length tc) (by simp [go_sem, e61, hxc]) (BR.refl _) ?_
            exact congrArg (fun v => [v]) (slotOf_same act 62 _ (by omega))
          | 4, _, ho, hD =>
            cases ho
            have e10 := slot_tmps (show slotOf act 10 = i64 k from hF.slot 10 (by kernel_rfl))
            refine rgw_val (wanted_none rfl) (i64 k) (by simp [go_sem, e10]) (BR.refl _) ?_
            exact congrArg (fun v => [v]) (slotOf_same act 63 _ (by omega))
          | 5, _, ho, hD =>
            cases ho
            have e62 := slot_tmps (List.cons.inj (hD 3 (by decide))).1
            have e63 := slot_tmps (List.cons.inj (hD 4 (by decide))).1
            refine rgw_val (wanted_none rfl) (.pointer (some ⟨tb, tq + k * 2, none⟩)) (by simp [go_sem, e62, e63, hi22]) (BR.refl _) ?_
            exact congrArg (fun v => [v]) (slotOf_same act 64 _ (by omega))
          | 6, _, ho, hD =>
            cases ho
            have e64 := slot_tmps (List.cons.inj (hD 5 (by decide))).1
            have hTA := hT9.same (Same.of_below (Below.mono hR ha9.size))
            have ct1 := hTA.lo k hlt
            have ct2 := hTA.hi k hlt
            refine rgw_val (wanted_none rfl) (.agg #[i64 (tideAt B k).lo, i64 (tideAt B k).hi]) (by simp [go_sem, e64, ct1, ct2, htk]) (BR.refl _) ?_
            exact congrArg (fun v => [v]) (slotOf_same act 65 _ (by omega))
          | 7, _, ho, hD =>
            cases ho
            have e8 := slot_tmps (show slotOf act 8 = i64 n from hF.slot 8 (by kernel_rfl))
            refine rgw_val (wanted_none rfl) (i64 n) (by simp [go_sem, e8]) (BR.refl _) ?_
            exact congrArg (fun v => [v]) (slotOf_same act 66 _ (by omega))
          | 8, _, ho, hD =>
            cases ho
            have e65 := slot_tmps (List.cons.inj (hD 6 (by decide))).1
            have e66 := slot_tmps (List.cons.inj (hD 7 (by decide))).1
            refine rgw_call (wanted_none rfl) 49 #[.agg #[i64 (tideAt B k).lo, i64 (tideAt B k).hi], i64 n] (by simp [go_sem, e65, e66]) rfl ?_
            refine (up_any _ _ _ _ hwk.1 hwk.2 hn).mono ?_
            rintro e wB ⟨rfl, hb⟩
            exact ⟨_, rfl, hb, congrArg (fun v => [v]) (slotOf_same act 67 _ (by omega))⟩
          | 9, _, ho, hD =>
            cases ho
            have e67 := slot_tmps (List.cons.inj (hD 8 (by decide))).1
            refine rgw_wp (wanted_none rfl) rfl ?_
            refine wp_of_run (v := .slice (some ⟨wA.heap.size, 0, none⟩) 1 1) (w' := wA.alloc (.cells #[i64 ((tideAt B k).lo + n), i64 ((tideAt B k).hi + n)] 24)) (by simp [go_sem, e67]) ?_
            exact ⟨_, rfl, (Below.refl _ _).alloc (Nat.le_refl _) _, _, congrArg (fun v => [v]) (slotOf_same act 68 _ (by omega)), heap_alloc_new _ _⟩
          | _ + 10, hin, _, _ => exact absurd hin (by omega)
        · intro act wA hR hF hA
          have f2 : slotOf act 2 = .pointer (some ⟨w.heap.size, 0, none⟩) := hF.slot 2 (by kernel_rfl)
          have f4 : slotOf act 4 = .bool false := hF.slot 4 (by kernel_rfl)
          have f5 : slotOf act 5 = i64 s := hF.slot 5 (by kernel_rfl)
          have f6 : slotOf act 6 = i64 hr := hF.slot 6 (by kernel_rfl)
          have f7 : slotOf act 7 = i64 ld := hF.slot 7 (by kernel_rfl)
          have f8 : slotOf act 8 = i64 n := hF.slot 8 (by kernel_rfl)
          have f9 : slotOf act 9 = .pointer (some ⟨y, 0, none⟩) := hF.slot 9 (by kernel_rfl)
          have f10 : slotOf act 10 = i64 k := hF.slot 10 (by kernel_rfl)
          have f59 : slotOf act 59 = .pointer (some ⟨y, 0, none⟩) := (List.cons.inj (hA 0 (by decide))).1
          have f60 : slotOf act 60 = v := (List.cons.inj (hA 1 (by decide))).1
          have f61 : slotOf act 61 = .pointer (some ⟨w.heap.size, 0, none⟩) := (List.cons.inj (hA 2 (by decide))).1
          have f62 : slotOf act 62 = .slice ta B.tides.length tc := (List.cons.inj (hA 3 (by decide))).1
          have f63 : slotOf act 63 = i64 k := (List.cons.inj (hA 4 (by decide))).1
          have f64 : slotOf act 64 = .pointer (some ⟨tb, tq + k * 2, none⟩) := (List.cons.inj (hA 5 (by decide))).1
          have f65 : slotOf act 65 = .agg #[i64 (tideAt B k).lo, i64 (tideAt B k).hi] := (List.cons.inj (hA 6 (by decide))).1
          have f66 : slotOf act 66 = i64 n := (List.cons.inj (hA 7 (by decide))).1
          have f67 : slotOf act 67 = .agg #[i64 ((tideAt B k).lo + n), i64 ((tideAt B k).hi + n)] := (List.cons.inj (hA 8 (by decide))).1
          obtain ⟨gs, d68, hgs⟩ := hA 9 (by decide)
          have f68 : slotOf act 68 = .slice (some ⟨gs, 0, none⟩) 1 1 := (List.cons.inj d68).1
          rw [act_eta act 249 hF.size hF.defers]
          simp only [show List.range 249 = [0, 1, 2, 3, 4, 5, 6, 7, 8, 9, 10, 11, 12, 13, 14, 15, 16, 17, 18, 19, 20, 21, 22, 23, 24, 25, 26, 27, 28, 29, 30, 31, 32, 33, 34, 35, 36, 37, 38, 39, 40, 41, 42, 43, 44, 45, 46, 47, 48, 49, 50, 51, 52, 53, 54, 55, 56, 57, 58, 59, 60, 61, 62, 63, 64, 65, 66, 67, 68, 69, 70, 71, 72, 73, 74, 75, 76, 77, 78, 79, 80, 81, 82, 83, 84, 85, 86, 87, 88, 89, 90, 91, 92, 93, 94, 95, 96, 97, 98, 99, 100, 101, 102, 103, 104, 105, 106, 107, 108, 109, 110, 111, 112, 113, 114, 115, 116, 117, 118, 119, 120, 121, 122, 123, 124, 125, 126, 127, 128, 129, 130, 131, 132, 133, 134, 135, 136, 137, 138, 139, 140, 141, 142, 143, 144, 145, 146, 147, 148, 149, 150, 151, 152, 153, 154, 155, 156, 157, 158, 159, 160, 161, 162, 163, 164, 165, 166, 167, 168, 169, 170, 171, 172, 173, 174, 175, 176, 177, 178, 179, 180, 181, 182, 183, 184, 185, 186, 187, 188, 189, 190, 191, 192, 193, 194, 195, 196, 197, 198, 199, 200, 201, 202, 203, 204, 205, 206, 207, 208, 209, 210, 211, 212, 213, 214, 215, 216, 217, 218, 219, 220, 221, 222, 223, 224, 225, 226, 227, 228, 229, 230, 231, 232, 233, 234, 235, 236, 237, 238, 239, 240, 241, 242, 243, 244, 245, 246, 247, 248] from rfl, List.map_cons, List.map_nil, f2, f4, f5, f6, f7, f8, f9, f10, f59, f60, f61, f62, f63, f64, f65, f66, f67, f68]
          clear hA hF f2 f4 f5 f6 f7 f8 f9 f10 f59 f60 f61 f62 f63 f64 f65 f66 f67 f68
          simp only [List.drop_succ_cons, List.drop_zero]
          have hyA := (Below.block hR _ hy9l).trans hy9
          have hbA := hb9.trans (Below.mono hR (Nat.le_of_lt hy9l))
          have hzA := Nat.le_trans hz9 (Below.size hR)
          have hownA := ownsRow_below hown hR
          have hgsc := cells_of hgs
          have hnews : ∀ j u, [i64 ((tideAt B k).lo + n), i64 ((tideAt B k).hi + n)][j]? = some u → wA.cell? ((⟨gs, 0, none⟩ : Addr).add j) = some u := fun j u hu => by
            rw [addr_add, hgsc]
            simpa using hu
          refine wpList_append_own _ rfl _ _ 22 rfl (y + 1) 24 i0 (.agg #[i64 0, i64 0]) 2 16 Tryd.underlying22 hi hi1 hi2 hi3 rfl (by decide) v k _ rfl hownA ⟨gs, 0, none⟩ 1 1 [i64 ((tideAt B k).lo + n), i64 ((tideAt B k).hi + n)] rfl rfl hnews (by simp [Value.oneCell']) (by unfold maxLen; omega) (by omega) hzA ?_
          intro v' w5 hown' hgrow _
          have hnb : ∀ j, j < y + 1 → some j ≠ v.ownBlock := fun j hj e => by have := (hownA.lt _ e.symm).1; omega
          have hy5 := (hgrow.block y (by omega) (hnb _ (by omega))).trans hyA
          have hb5 : Below y w2 w5 := hbA.grown hgrow (by omega) (fun j e => by have := (hownA.lt _ e).1; omega)
          have hz5 : y + 1 ≤ w5.heap.size := Nat.le_trans hzA hgrow.size
          have hyc := cells_of hy5
          have hyf := frozen_of hy5
          have hyl := (Array.getElem?_eq_some_iff.1 hy5).1
          obtain ⟨va, vc, rfl⟩ := slice_of_row hown'
          have hown3 := ownsRow_keep (y := y) (w' := w5.setCell ⟨y, 0, none⟩ (.slice va (k + 1) vc)) hown' (by omega) (fun j _ hjy => Below.heap_setCell _ _ _ j hjy)
          clear hyA hbA hzA hownA hgsc hnews hown' hgrow hnb hgs
          go_wp2_with fail
          refine ⟨⟨k + 1, .slice va (k + 1) vc, by omega, rfl, rfl, rfl, rfl, rfl, rfl, rfl, rfl, rfl, congrArg (Value.int .i64) (Int.natCast_succ k).symm, ?_, ?_, ?_, ?_⟩, ?_⟩
          · simpa [World.setCell] using hz5
          · exact hb5.setCell (p := ⟨y, 0, none⟩) (Nat.le_refl _) _
          · exact set_book' 0 hy5 _
          · rw [hsucc, flatT_snoc]; exact hown3
          · show B.tides.length - ((k : Int) + 1).toNat < B.tides.length - (k : Int).toNat
            omega
      · have hlt' : ¬ (k : Int) < (B.tides.length : Int) := by omega
        obtain rfl : k = B.tides.length := by omega
        have hall : tkUp B n B.tides.length = (upB B n).tides := by simp [tkUp, upB]
        rw [hall] at hown
        have hXl : (upB B n).tides.length = B.tides.length := up_len
        obtain ⟨gb, ga, gc, rfl, hTX⟩ := spans_row (l := (upB B n).tides) (by rw [hXl]; exact hown) (by rw [hXl]; omega)
        have hgy : (upB B n).tides ≠ [] → gb ≠ y := fun h0 e => by
          have ha := hTX.at_ h0
          subst ha
          have := (hown.lt gb rfl).1
          omega
        clear hown hall hz9
        go_wp2_with fail
        refine wp_loop (fun act W => ∃ j : Nat, j ≤ 2 ∧ HigJ w B ta tc sa sc y s hr ld n (.slice ga (upB B n).tides.length gc) gb ga j act w2 W) (fun act _ => 2 - (intOf (slotOf act 11)).toNat) ?_ ?_
        · exact ⟨0, by omega, rfl, rfl, rfl, rfl, rfl, rfl, rfl, rfl, rfl, rfl, hb9, hy9, hTX⟩
        · clear hb9 hy9 hTX hx9 ha9 hx9l hy9l hxc
          rintro actJ W3 ⟨j, hj, hsz, hdf, s2, s4, s5, s6, s7, s8, s9, s11, hb3, hy3, hTX3⟩
          rw [act_eta actJ 249 hsz hdf]
          simp only [show List.range 249 = [0, 1, 2, 3, 4, 5, 6, 7, 8, 9, 10, 11, 12, 13, 14, 15, 16, 17, 18, 19, 20, 21, 22, 23, 24, 25, 26, 27, 28, 29, 30, 31, 32, 33, 34, 35, 36, 37, 38, 39, 40, 41, 42, 43, 44, 45, 46, 47, 48, 49, 50, 51, 52, 53, 54, 55, 56, 57, 58, 59, 60, 61, 62, 63, 64, 65, 66, 67, 68, 69, 70, 71, 72, 73, 74, 75, 76, 77, 78, 79, 80, 81, 82, 83, 84, 85, 86, 87, 88, 89, 90, 91, 92, 93, 94, 95, 96, 97, 98, 99, 100, 101, 102, 103, 104, 105, 106, 107, 108, 109, 110, 111, 112, 113, 114, 115, 116, 117, 118, 119, 120, 121, 122, 123, 124, 125, 126, 127, 128, 129, 130, 131, 132, 133, 134, 135, 136, 137, 138, 139, 140, 141, 142, 143, 144, 145, 146, 147, 148, 149, 150, 151, 152, 153, 154, 155, 156, 157, 158, 159, 160, 161, 162, 163, 164, 165, 166, 167, 168, 169, 170, 171, 172, 173, 174, 175, 176, 177, 178, 179, 180, 181, 182, 183, 184, 185, 186, 187, 188, 189, 190, 191, 192, 193, 194, 195, 196, 197, 198, 199, 200, 201, 202, 203, 204, 205, 206, 207, 208, 209, 210, 211, 212, 213, 214, 215, 216, 217, 218, 219, 220, 221, 222, 223, 224, 225, 226, 227, 228, 229, 230, 231, 232, 233, 234, 235, 236, 237, 238, 239, 240, 241, 242, 243, 244, 245, 246, 247, 248] from rfl, List.map_cons, List.map_nil, s2, s4, s5, s6, s7, s8, s9, s11]
          have hx3 := hxy _ hb3
          have hxc := cells_of hx3
          have hxl := (Array.getElem?_eq_some_iff.1 hx3).1
          rcases (by omega : j = 0 ∨ j = 1 ∨ j = 2) with rfl | rfl | rfl
          · have hlt2 : ((0 : Nat) : Int) < 2 := by omega
            go_wp2_with fail
            have hbn : Below W3.heap.size W3 (W3.alloc (.cells #[i64 B.s0.fl, i64 B.s0.fh, i64 B.s0.lo, i64 B.s0.hi] 26)) := (Below.refl _ W3).alloc (Nat.le_refl _) _
            have hgC := heap_alloc_new W3 (.cells #[i64 B.s0.fl, i64 B.s0.fh, i64 B.s0.lo, i64 B.s0.hi] 26)
            have hyC := (Below.block hbn _ (Array.getElem?_eq_some_iff.1 hy3).1).trans hy3
            have hTXC := (hTX3.same (Same.of_below hbn)).up hbn.size
            have hbC := hb3.trans (hbn.mono (Nat.le_of_lt (Array.getElem?_eq_some_iff.1 hy3).1))
            obtain ⟨wC, hwC⟩ : ∃ wC, W3.alloc (.cells #[i64 B.s0.fl, i64 B.s0.fh, i64 B.s0.lo, i64 B.s0.hi] 26) = wC := ⟨_, rfl⟩
            obtain ⟨g, hge⟩ : ∃ g, W3.heap.size = g := ⟨_, rfl⟩
            rw [hwC] at hgC hyC hTXC hbC ⊢
            rw [hge] at hgC ⊢
            have hgCl := (Array.getElem?_eq_some_iff.1 hgC).1
            have hyCl := (Array.getElem?_eq_some_iff.1 hyC).1
            clear hbn hwC hge hx3 hxc hxl hb3 hy3 hTX3
            refine rl_region 15 rdHi14s0 pureHi14s0 (gHi14s0 B y g n) BR (by kernel_rfl) (by kernel_rfl) (by kernel_rfl) (by kernel_rfl) (by kernel_rfl) (by kernel_rfl) (fun n => BR.drawn _ n) BR.refl (fun _ _ _ => BR.trans) ?_ ?_ ?_
            · intro i _ hi vs wA wB hG hR
              match i, hi, hG with
              | 0, _, hG => exact hG
              | 1, _, hG => exact hG
              | 2, _, hG => exact hG
              | 3, _, hG => exact hG
              | 4, _, hG => exact hG
              | 5, _, hG => exact hG
              | 6, _, hG => exact hG
              | 7, _, hG => exact hG
              | 8, _, hG => exact hG
              | 9, _, hG => exact hG
              | 10, _, hG => exact hG
              | 11, _, hG => exact hG
              | 12, _, hG => exact hG
              | 13, _, hG => exact hG
              | 14, _, hG => exact hG
              | _ + 15, _, _ => trivial
            · intro i op hin ho act wA hR hF hD
              have sz : act.tmps.size = 249 := hF.size
              match i, hin, ho, hD with
              | 0, _, ho, hD =>
                cases ho
                have e11 := slot_tmps (show slotOf act 11 = i64 0 from hF.slot 11 (by kernel_rfl))
                refine rgw_val (wanted_none rfl) (i64 0) (by simp [go_sem, e11]) (BR.refl _) ?_
                exact congrArg (fun v => [v]) (slotOf_same act 79 _ (by omega))
              | 1, _, ho, hD =>
                cases ho
                have e12 := slot_tmps (show slotOf act 12 = .pointer (some ⟨g, 0, none⟩) from hF.slot 12 (by kernel_rfl))
                refine rgw_val (wanted_none rfl) (.pointer (some ⟨g, 0, none⟩)) (by simp [go_sem, e12]) (BR.refl _) ?_
                exact congrArg (fun v => [v]) (slotOf_same act 80 _ (by omega))
              | 2, _, ho, hD =>
                cases ho
                have e80 := slot_tmps (List.cons.inj (hD 1 (by decide))).1
                have hgA := (Below.block hR _ hgCl).trans hgC
                have hgc := cells_of hgA
                refine rgw_val (wanted_none rfl) (.agg #[i64 B.s0.fl, i64 B.s0.fh]) (by simp [go_sem, e80, hgc]) (BR.refl _) ?_
                exact congrArg (fun v => [v]) (slotOf_same act 81 _ (by omega))
              | 3, _, ho, hD =>
                cases ho
                have e8 := slot_tmps (show slotOf act 8 = i64 n from hF.slot 8 (by kernel_rfl))
                refine rgw_val (wanted_none rfl) (i64 n) (by simp [go_sem, e8]) (BR.refl _) ?_
                exact congrArg (fun v => [v]) (slotOf_same act 82 _ (by omega))
              | 4, _, ho, hD =>
                cases ho
                have e81 := slot_tmps (List.cons.inj (hD 2 (by decide))).1
                have e82 := slot_tmps (List.cons.inj (hD 3 (by decide))).1
                refine rgw_call (wanted_none rfl) 49 #[.agg #[i64 B.s0.fl, i64 B.s0.fh], i64 n] (by simp [go_sem, e81, e82]) rfl ?_
                refine (up_any _ _ _ _ hws0.1 hws0.2.1 hn).mono ?_
                rintro e wB ⟨rfl, hb⟩
                exact ⟨_, rfl, hb, congrArg (fun v => [v]) (slotOf_same act 83 _ (by omega))⟩
              | 5, _, ho, hD =>
                cases ho
                have e12 := slot_tmps (show slotOf act 12 = .pointer (some ⟨g, 0, none⟩) from hF.slot 12 (by kernel_rfl))
                refine rgw_val (wanted_none rfl) (.pointer (some ⟨g, 2, none⟩)) (by simp [go_sem, e12]) (BR.refl _) ?_
                exact congrArg (fun v => [v]) (slotOf_same act 84 _ (by omega))
              | 6, _, ho, hD =>
                cases ho
                have e84 := slot_tmps (List.cons.inj (hD 5 (by decide))).1
                have hgA := (Below.block hR _ hgCl).trans hgC
                have hgc := cells_of hgA
                refine rgw_val (wanted_none rfl) (i64 B.s0.lo) (by simp [go_sem, e84, hgc]) (BR.refl _) ?_
                exact congrArg (fun v => [v]) (slotOf_same act 85 _ (by omega))
              | 7, _, ho, hD =>
                cases ho
                have e8 := slot_tmps (show slotOf act 8 = i64 n from hF.slot 8 (by kernel_rfl))
                refine rgw_val (wanted_none rfl) (i64 n) (by simp [go_sem, e8]) (BR.refl _) ?_
                exact congrArg (fun v => [v]) (slotOf_same act 86 _ (by omega))
              | 8, _, ho, hD =>
                cases ho
                have e85 := slot_tmps (List.cons.inj (hD 6 (by decide))).1
                have e86 := slot_tmps (List.cons.inj (hD 7 (by decide))).1
                refine rgw_val (wanted_none rfl) (i64 (B.s0.lo + n)) (by simp [go_sem, e85, e86, hwl0]) (BR.refl _) ?_
                exact congrArg (fun v => [v]) (slotOf_same act 87 _ (by omega))
              | 9, _, ho, hD =>
                cases ho
                have e12 := slot_tmps (show slotOf act 12 = .pointer (some ⟨g, 0, none⟩) from hF.slot 12 (by kernel_rfl))
                refine rgw_val (wanted_none rfl) (.pointer (some ⟨g, 3, none⟩)) (by simp [go_sem, e12]) (BR.refl _) ?_
                exact congrArg (fun v => [v]) (slotOf_same act 88 _ (by omega))
              | 10, _, ho, hD =>
                cases ho
                have e88 := slot_tmps (List.cons.inj (hD 9 (by decide))).1
                have hgA := (Below.block hR _ hgCl).trans hgC
                have hgc := cells_of hgA
                refine rgw_val (wanted_none rfl) (i64 B.s0.hi) (by simp [go_sem, e88, hgc]) (BR.refl _) ?_
                exact congrArg (fun v => [v]) (slotOf_same act 89 _ (by omega))
              | 11, _, ho, hD =>
                cases ho
                have e8 := slot_tmps (show slotOf act 8 = i64 n from hF.slot 8 (by kernel_rfl))
                refine rgw_val (wanted_none rfl) (i64 n) (by simp [go_sem, e8]) (BR.refl _) ?_
                exact congrArg (fun v => [v]) (slotOf_same act 90 _ (by omega))
              | 12, _, ho, hD =>
                cases ho
                have e89 := slot_tmps (List.cons.inj (hD 10 (by decide))).1
                have e90 := slot_tmps (List.cons.inj (hD 11 (by decide))).1
                refine rgw_val (wanted_none rfl) (i64 (B.s0.hi + n)) (by simp [go_sem, e89, e90, hwh0]) (BR.refl _) ?_
                exact congrArg (fun v => [v]) (slotOf_same act 91 _ (by omega))
              | 13, _, ho, hD =>
                cases ho
                have e83 := slot_tmps (List.cons.inj (hD 4 (by decide))).1
                have e87 := slot_tmps (List.cons.inj (hD 8 (by decide))).1
                have e91 := slot_tmps (List.cons.inj (hD 12 (by decide))).1
                refine rgw_val (wanted_none rfl) (.agg #[i64 (B.s0.fl + n), i64 (B.s0.fh + n), i64 (B.s0.lo + n), i64 (B.s0.hi + n)]) (by simp [go_sem, e83, e87, e91]) (BR.refl _) ?_
                exact congrArg (fun v => [v]) (slotOf_same act 92 _ (by omega))
              | 14, _, ho, hD =>
                cases ho
                have e9 := slot_tmps (show slotOf act 9 = .pointer (some ⟨y, 0, none⟩) from hF.slot 9 (by kernel_rfl))
                refine rgw_val (wanted_none rfl) (.pointer (some ⟨y, 1, none⟩)) (by simp [go_sem, e9]) (BR.refl _) ?_
                exact congrArg (fun v => [v]) (slotOf_same act 93 _ (by omega))
              | _ + 15, hin, _, _ => exact absurd hin (by omega)
            · intro act wA hR hF hA
              have f2 : slotOf act 2 = .pointer (some ⟨w.heap.size, 0, none⟩) := hF.slot 2 (by kernel_rfl)
              have f4 : slotOf act 4 = .bool false := hF.slot 4 (by kernel_rfl)
              have f5 : slotOf act 5 = i64 s := hF.slot 5 (by kernel_rfl)
              have f6 : slotOf act 6 = i64 hr := hF.slot 6 (by kernel_rfl)
              have f7 : slotOf act 7 = i64 ld := hF.slot 7 (by kernel_rfl)
              have f8 : slotOf act 8 = i64 n := hF.slot 8 (by kernel_rfl)
              have f9 : slotOf act 9 = .pointer (some ⟨y, 0, none⟩) := hF.slot 9 (by kernel_rfl)
              have f11 : slotOf act 11 = i64 0 := hF.slot 11 (by kernel_rfl)
              have f12 : slotOf act 12 = .pointer (some ⟨g, 0, none⟩) := hF.slot 12 (by kernel_rfl)
              have f79 : slotOf act 79 = i64 0 := (List.cons.inj (hA 0 (by decide))).1
              have f80 : slotOf act 80 = .pointer (some ⟨g, 0, none⟩) := (List.cons.inj (hA 1 (by decide))).1
              have f81 : slotOf act 81 = .agg #[i64 B.s0.fl, i64 B.s0.fh] := (List.cons.inj (hA 2 (by decide))).1
              have f82 : slotOf act 82 = i64 n := (List.cons.inj (hA 3 (by decide))).1
              have f83 : slotOf act 83 = .agg #[i64 (B.s0.fl + n), i64 (B.s0.fh + n)] := (List.cons.inj (hA 4 (by decide))).1
              have f84 : slotOf act 84 = .pointer (some ⟨g, 2, none⟩) := (List.cons.inj (hA 5 (by decide))).1
              have f85 : slotOf act 85 = i64 B.s0.lo := (List.cons.inj (hA 6 (by decide))).1
              have f86 : slotOf act 86 = i64 n := (List.cons.inj (hA 7 (by decide))).1
              have f87 : slotOf act 87 = i64 (B.s0.lo + n) := (List.cons.inj (hA 8 (by decide))).1
              have f88 : slotOf act 88 = .pointer (some ⟨g, 3, none⟩) := (List.cons.inj (hA 9 (by decide))).1
              have f89 : slotOf act 89 = i64 B.s0.hi := (List.cons.inj (hA 10 (by decide))).1
              have f90 : slotOf act 90 = i64 n := (List.cons.inj (hA 11 (by decide))).1
              have f91 : slotOf act 91 = i64 (B.s0.hi + n) := (List.cons.inj (hA 12 (by decide))).1
              have f92 : slotOf act 92 = .agg #[i64 (B.s0.fl + n), i64 (B.s0.fh + n), i64 (B.s0.lo + n), i64 (B.s0.hi + n)] := (List.cons.inj (hA 13 (by decide))).1
              have f93 : slotOf act 93 = .pointer (some ⟨y, 1, none⟩) := (List.cons.inj (hA 14 (by decide))).1
              rw [act_eta act 249 hF.size hF.defers]
              simp only [show List.range 249 = [0, 1, 2, 3, 4, 5, 6, 7, 8, 9, 10, 11, 12, 13, 14, 15, 16, 17, 18, 19, 20, 21, 22, 23, 24, 25, 26, 27, 28, 29, 30, 31, 32, 33, 34, 35, 36, 37, 38, 39, 40, 41, 42, 43, 44, 45, 46, 47, 48, 49, 50, 51, 52, 53, 54, 55, 56, 57, 58, 59, 60, 61, 62, 63, 64, 65, 66, 67, 68, 69, 70, 71, 72, 73, 74, 75, 76, 77, 78, 79, 80, 81, 82, 83, 84, 85, 86, 87, 88, 89, 90, 91, 92, 93, 94, 95, 96, 97, 98, 99, 100, 101, 102, 103, 104, 105, 106, 107, 108, 109, 110, 111, 112, 113, 114, 115, 116, 117, 118, 119, 120, 121, 122, 123, 124, 125, 126, 127, 128, 129, 130, 131, 132, 133, 134, 135, 136, 137, 138, 139, 140, 141, 142, 143, 144, 145, 146, 147, 148, 149, 150, 151, 152, 153, 154, 155, 156, 157, 158, 159, 160, 161, 162, 163, 164, 165, 166, 167, 168, 169, 170, 171, 172, 173, 174, 175, 176, 177, 178, 179, 180, 181, 182, 183, 184, 185, 186, 187, 188, 189, 190, 191, 192, 193, 194, 195, 196, 197, 198, 199, 200, 201, 202, 203, 204, 205, 206, 207, 208, 209, 210, 211, 212, 213, 214, 215, 216, 217, 218, 219, 220, 221, 222, 223, 224, 225, 226, 227, 228, 229, 230, 231, 232, 233, 234, 235, 236, 237, 238, 239, 240, 241, 242, 243, 244, 245, 246, 247, 248] from rfl, List.map_cons, List.map_nil, f2, f4, f5, f6, f7, f8, f9, f11, f12, f79, f80, f81, f82, f83, f84, f85, f86, f87, f88, f89, f90, f91, f92, f93]
              clear hA hF f2 f4 f5 f6 f7 f8 f9 f11 f12 f79 f80 f81 f82 f83 f84 f85 f86 f87 f88 f89 f90 f91 f92 f93
              simp only [List.drop_succ_cons, List.drop_zero]
              have hyA : wA.heap[y]? = some (.cells #[(.slice ga (upB B n).tides.length gc), i64 B.s0.fl, i64 B.s0.fh, i64 B.s0.lo, i64 B.s0.hi, i64 B.s1.fl, i64 B.s1.fh, i64 B.s1.lo, i64 B.s1.hi, i64 B.el, i64 B.eh, i64 B.sink, i64 B.under, .slice sa B.sounds.length sc] 30 (0, 0)) := (Below.block hR _ hyCl).trans hyC
              have hyc := cells_of hyA
              have hyf := frozen_of hyA
              have hyl := (Array.getElem?_eq_some_iff.1 hyA).1
              have hbA := hbC.trans (Below.mono hR (Nat.le_of_lt hyCl))
              have hTXA := (hTXC.same (Same.of_below hR)).up (Below.size hR)
              obtain ⟨e1, e2, e3, e4⟩ := set4 hyA 1 (i64 (B.s0.fl + n)) (i64 (B.s0.fh + n)) (i64 (B.s0.lo + n)) (i64 (B.s0.hi + n))
              have hTXE := spans_but hTXA hgy e2 e3
              clear hR
              go_wp2_with fail
              refine ⟨⟨1, by omega, rfl, rfl, rfl, rfl, rfl, rfl, rfl, rfl, rfl, rfl, e4 y w2 (Nat.le_refl _) hbA, e1, hTXE⟩, ?_⟩
              show 2 - (((0 : Int) + 1)).toNat < 2 - ((0 : Nat) : Int).toNat
              decide
          · have hlt2 : ((1 : Nat) : Int) < 2 := by omega
            go_wp2_with fail
            have hbn : Below W3.heap.size W3 (W3.alloc (.cells #[i64 B.s1.fl, i64 B.s1.fh, i64 B.s1.lo, i64 B.s1.hi] 26)) := (Below.refl _ W3).alloc (Nat.le_refl _) _
            have hgC := heap_alloc_new W3 (.cells #[i64 B.s1.fl, i64 B.s1.fh, i64 B.s1.lo, i64 B.s1.hi] 26)
            have hyC := (Below.block hbn _ (Array.getElem?_eq_some_iff.1 hy3).1).trans hy3
            have hTXC := (hTX3.same (Same.of_below hbn)).up hbn.size
            have hbC := hb3.trans (hbn.mono (Nat.le_of_lt (Array.getElem?_eq_some_iff.1 hy3).1))
            obtain ⟨wC, hwC⟩ : ∃ wC, W3.alloc (.cells #[i64 B.s1.fl, i64 B.s1.fh, i64 B.s1.lo, i64 B.s1.hi] 26) = wC := ⟨_, rfl⟩
            obtain ⟨g, hge⟩ : ∃ g, W3.heap.size = g := ⟨_, rfl⟩
            rw [hwC] at hgC hyC hTXC hbC ⊢
            rw [hge] at hgC ⊢
            have hgCl := (Array.getElem?_eq_some_iff.1 hgC).1
            have hyCl := (Array.getElem?_eq_some_iff.1 hyC).1
            clear hbn hwC hge hx3 hxc hxl hb3 hy3 hTX3
            refine rl_region 15 rdHi14s1 pureHi14s1 (gHi14s1 B y g n) BR (by kernel_rfl) (by kernel_rfl) (by kernel_rfl) (by kernel_rfl) (by kernel_rfl) (by kernel_rfl) (fun n => BR.drawn _ n) BR.refl (fun _ _ _ => BR.trans) ?_ ?_ ?_
            · intro i _ hi vs wA wB hG hR
              match i, hi, hG with
              | 0, _, hG => exact hG
              | 1, _, hG => exact hG
              | 2, _, hG => exact hG
              | 3, _, hG => exact hG
              | 4, _, hG => exact hG
              | 5, _, hG => exact hG
              | 6, _, hG => exact hG
              | 7, _, hG => exact hG
              | 8, _, hG => exact hG
              | 9, _, hG => exact hG
              | 10, _, hG => exact hG
              | 11, _, hG => exact hG
              | 12, _, hG => exact hG
              | 13, _, hG => exact hG
              | 14, _, hG => exact hG
              | _ + 15, _, _ => trivial
            · intro i op hin ho act wA hR hF hD
              have sz : act.tmps.size = 249 := hF.size
              match i, hin, ho, hD with
              | 0, _, ho, hD =>
                cases ho
                have e11 := slot_tmps (show slotOf act 11 = i64 1 from hF.slot 11 (by kernel_rfl))
                refine rgw_val (wanted_none rfl) (i64 1) (by simp [go_sem, e11]) (BR.refl _) ?_
                exact congrArg (fun v => [v]) (slotOf_same act 79 _ (by omega))
              | 1, _, ho, hD =>
                cases ho
                have e12 := slot_tmps (show slotOf act 12 = .pointer (some ⟨g, 0, none⟩) from hF.slot 12 (by kernel_rfl))
                refine rgw_val (wanted_none rfl) (.pointer (some ⟨g, 0, none⟩)) (by simp [go_sem, e12]) (BR.refl _) ?_
                exact congrArg (fun v => [v]) (slotOf_same act 80 _ (by omega))
              | 2, _, ho, hD =>
                cases ho
                have e80 := slot_tmps (List.cons.inj (hD 1 (by decide))).1
                have hgA := (Below.block hR _ hgCl).trans hgC
                have hgc := cells_of hgA
                refine rgw_val (wanted_none rfl) (.agg #[i64 B.s1.fl, i64 B.s1.fh]) (by simp [go_sem, e80, hgc]) (BR.refl _) ?_
                exact congrArg (fun v => [v]) (slotOf_same act 81 _ (by omega))
              | 3, _, ho, hD =>
                cases ho
                have e8 := slot_tmps (show slotOf act 8 = i64 n from hF.slot 8 (by kernel_rfl))
                refine rgw_val (wanted_none rfl) (i64 n) (by simp [go_sem, e8]) (BR.refl _) ?_
                exact congrArg (fun v => [v]) (slotOf_same act 82 _ (by omega))
              | 4, _, ho, hD =>
                cases ho
                have e81 := slot_tmps (List.cons.inj (hD 2 (by decide))).1
                have e82 := slot_tmps (List.cons.inj (hD 3 (by decide))).1
                refine rgw_call (wanted_none rfl) 49 #[.agg #[i64 B.s1.fl, i64 B.s1.fh], i64 n] (by simp [go_sem, e81, e82]) rfl ?_
                refine (up_any _ _ _ _ hws1.1 hws1.2.1 hn).mono ?_
                rintro e wB ⟨rfl, hb⟩
                exact ⟨_, rfl, hb, congrArg (fun v => [v]) (slotOf_same act 83 _ (by omega))⟩
              | 5, _, ho, hD =>
                cases ho
                have e12 := slot_tmps (show slotOf act 12 = .pointer (some ⟨g, 0, none⟩) from hF.slot 12 (by kernel_rfl))
                refine rgw_val (wanted_none rfl) (.pointer (some ⟨g, 2, none⟩)) (by simp [go_sem, e12]) (BR.refl _) ?_
                exact congrArg (fun v => [v]) (slotOf_same act 84 _ (by omega))
              | 6, _, ho, hD =>
                cases ho
                have e84 := slot_tmps (List.cons.inj (hD 5 (by decide))).1
                have hgA := (Below.block hR _ hgCl).trans hgC
                have hgc := cells_of hgA
                refine rgw_val (wanted_none rfl) (i64 B.s1.lo) (by simp [go_sem, e84, hgc]) (BR.refl _) ?_
                exact congrArg (fun v => [v]) (slotOf_same act 85 _ (by omega))
              | 7, _, ho, hD =>
                cases ho
                have e8 := slot_tmps (show slotOf act 8 = i64 n from hF.slot 8 (by kernel_rfl))
                refine rgw_val (wanted_none rfl) (i64 n) (by simp [go_sem, e8]) (BR.refl _) ?_
                exact congrArg (fun v => [v]) (slotOf_same act 86 _ (by omega))
              | 8, _, ho, hD =>
                cases ho
                have e85 := slot_tmps (List.cons.inj (hD 6 (by decide))).1
                have e86 := slot_tmps (List.cons.inj (hD 7 (by decide))).1
                refine rgw_val (wanted_none rfl) (i64 (B.s1.lo + n)) (by simp [go_sem, e85, e86, hwl1]) (BR.refl _) ?_
                exact congrArg (fun v => [v]) (slotOf_same act 87 _ (by omega))
              | 9, _, ho, hD =>
                cases ho
                have e12 := slot_tmps (show slotOf act 12 = .pointer (some ⟨g, 0, none⟩) from hF.slot 12 (by kernel_rfl))
                refine rgw_val (wanted_none rfl) (.pointer (some ⟨g, 3, none⟩)) (by simp [go_sem, e12]) (BR.refl _) ?_
                exact congrArg (fun v => [v]) (slotOf_same act 88 _ (by omega))
              | 10, _, ho, hD =>
                cases ho
                have e88 := slot_tmps (List.cons.inj (hD 9 (by decide))).1
                have hgA := (Below.block hR _ hgCl).trans hgC
                have hgc := cells_of hgA
                refine rgw_val (wanted_none rfl) (i64 B.s1.hi) (by simp [go_sem, e88, hgc]) (BR.refl _) ?_
                exact congrArg (fun v => [v]) (slotOf_same act 89 _ (by omega))
              | 11, _, ho, hD =>
                cases ho
                have e8 := slot_tmps (show slotOf act 8 = i64 n from hF.slot 8 (by kernel_rfl))
                refine rgw_val (wanted_none rfl) (i64 n) (by simp [go_sem, e8]) (BR.refl _) ?_
                exact congrArg (fun v => [v]) (slotOf_same act 90 _ (by omega))
              | 12, _, ho, hD =>
                cases ho
                have e89 := slot_tmps (List.cons.inj (hD 10 (by decide))).1
                have e90 := slot_tmps (List.cons.inj (hD 11 (by decide))).1
                refine rgw_val (wanted_none rfl) (i64 (B.s1.hi + n)) (by simp [go_sem, e89, e90, hwh1]) (BR.refl _) ?_
                exact congrArg (fun v => [v]) (slotOf_same act 91 _ (by omega))
              | 13, _, ho, hD =>
                cases ho
                have e83 := slot_tmps (List.cons.inj (hD 4 (by decide))).1
                have e87 := slot_tmps (List.cons.inj (hD 8 (by decide))).1
                have e91 := slot_tmps (List.cons.inj (hD 12 (by decide))).1
                refine rgw_val (wanted_none rfl) (.agg #[i64 (B.s1.fl + n), i64 (B.s1.fh + n), i64 (B.s1.lo + n), i64 (B.s1.hi + n)]) (by simp [go_sem, e83, e87, e91]) (BR.refl _) ?_
                exact congrArg (fun v => [v]) (slotOf_same act 92 _ (by omega))
              | 14, _, ho, hD =>
                cases ho
                have e9 := slot_tmps (show slotOf act 9 = .pointer (some ⟨y, 0, none⟩) from hF.slot 9 (by kernel_rfl))
                refine rgw_val (wanted_none rfl) (.pointer (some ⟨y, 1, none⟩)) (by simp [go_sem, e9]) (BR.refl _) ?_
                exact congrArg (fun v => [v]) (slotOf_same act 93 _ (by omega))
              | _ + 15, hin, _, _ => exact absurd hin (by omega)
            · intro act wA hR hF hA
              have f2 : slotOf act 2 = .pointer (some ⟨w.heap.size, 0, none⟩) := hF.slot 2 (by kernel_rfl)
              have f4 : slotOf act 4 = .bool false := hF.slot 4 (by kernel_rfl)
              have f5 : slotOf act 5 = i64 s := hF.slot 5 (by kernel_rfl)
              have f6 : slotOf act 6 = i64 hr := hF.slot 6 (by kernel_rfl)
              have f7 : slotOf act 7 = i64 ld := hF.slot 7 (by kernel_rfl)
              have f8 : slotOf act 8 = i64 n := hF.slot 8 (by kernel_rfl)
              have f9 : slotOf act 9 = .pointer (some ⟨y, 0, none⟩) := hF.slot 9 (by kernel_rfl)
              have f11 : slotOf act 11 = i64 1 := hF.slot 11 (by kernel_rfl)
              have f12 : slotOf act 12 = .pointer (some ⟨g, 0, none⟩) := hF.slot 12 (by kernel_rfl)
              have f79 : slotOf act 79 = i64 1 := (List.cons.inj (hA 0 (by decide))).1
              have f80 : slotOf act 80 = .pointer (some ⟨g, 0, none⟩) := (List.cons.inj (hA 1 (by decide))).1
              have f81 : slotOf act 81 = .agg #[i64 B.s1.fl, i64 B.s1.fh] := (List.cons.inj (hA 2 (by decide))).1
              have f82 : slotOf act 82 = i64 n := (List.cons.inj (hA 3 (by decide))).1
              have f83 : slotOf act 83 = .agg #[i64 (B.s1.fl + n), i64 (B.s1.fh + n)] := (List.cons.inj (hA 4 (by decide))).1
              have f84 : slotOf act 84 = .pointer (some ⟨g, 2, none⟩) := (List.cons.inj (hA 5 (by decide))).1
              have f85 : slotOf act 85 = i64 B.s1.lo := (List.cons.inj (hA 6 (by decide))).1
              have f86 : slotOf act 86 = i64 n := (List.cons.inj (hA 7 (by decide))).1
              have f87 : slotOf act 87 = i64 (B.s1.lo + n) := (List.cons.inj (hA 8 (by decide))).1
              have f88 : slotOf act 88 = .pointer (some ⟨g, 3, none⟩) := (List.cons.inj (hA 9 (by decide))).1
              have f89 : slotOf act 89 = i64 B.s1.hi := (List.cons.inj (hA 10 (by decide))).1
              have f90 : slotOf act 90 = i64 n := (List.cons.inj (hA 11 (by decide))).1
              have f91 : slotOf act 91 = i64 (B.s1.hi + n) := (List.cons.inj (hA 12 (by decide))).1
              have f92 : slotOf act 92 = .agg #[i64 (B.s1.fl + n), i64 (B.s1.fh + n), i64 (B.s1.lo + n), i64 (B.s1.hi + n)] := (List.cons.inj (hA 13 (by decide))).1
              have f93 : slotOf act 93 = .pointer (some ⟨y, 1, none⟩) := (List.cons.inj (hA 14 (by decide))).1
              rw [act_eta act 249 hF.size hF.defers]
              simp only [show List.range 249 = [0, 1, 2, 3, 4, 5, 6, 7, 8, 9, 10, 11, 12, 13, 14, 15, 16, 17, 18, 19, 20, 21, 22, 23, 24, 25, 26, 27, 28, 29, 30, 31, 32, 33, 34, 35, 36, 37, 38, 39, 40, 41, 42, 43, 44, 45, 46, 47, 48, 49, 50, 51, 52, 53, 54, 55, 56, 57, 58, 59, 60, 61, 62, 63, 64, 65, 66, 67, 68, 69, 70, 71, 72, 73, 74, 75, 76, 77, 78, 79, 80, 81, 82, 83, 84, 85, 86, 87, 88, 89, 90, 91, 92, 93, 94, 95, 96, 97, 98, 99, 100, 101, 102, 103, 104, 105, 106, 107, 108, 109, 110, 111, 112, 113, 114, 115, 116, 117, 118, 119, 120, 121, 122, 123, 124, 125, 126, 127, 128, 129, 130, 131, 132, 133, 134, 135, 136, 137, 138, 139, 140, 141, 142, 143, 144, 145, 146, 147, 148, 149, 150, 151, 152, 153, 154, 155, 156, 157, 158, 159, 160, 161, 162, 163, 164, 165, 166, 167, 168, 169, 170, 171, 172, 173, 174, 175, 176, 177, 178, 179, 180, 181, 182, 183, 184, 185, 186, 187, 188, 189, 190, 191, 192, 193, 194, 195, 196, 197, 198, 199, 200, 201, 202, 203, 204, 205, 206, 207, 208, 209, 210, 211, 212, 213, 214, 215, 216, 217, 218, 219, 220, 221, 222, 223, 224, 225, 226, 227, 228, 229, 230, 231, 232, 233, 234, 235, 236, 237, 238, 239, 240, 241, 242, 243, 244, 245, 246, 247, 248] from rfl, List.map_cons, List.map_nil, f2, f4, f5, f6, f7, f8, f9, f11, f12, f79, f80, f81, f82, f83, f84, f85, f86, f87, f88, f89, f90, f91, f92, f93]
              clear hA hF f2 f4 f5 f6 f7 f8 f9 f11 f12 f79 f80 f81 f82 f83 f84 f85 f86 f87 f88 f89 f90 f91 f92 f93
              simp only [List.drop_succ_cons, List.drop_zero]
              have hyA : wA.heap[y]? = some (.cells #[(.slice ga (upB B n).tides.length gc), i64 (B.s0.fl + n), i64 (B.s0.fh + n), i64 (B.s0.lo + n), i64 (B.s0.hi + n), i64 B.s1.fl, i64 B.s1.fh, i64 B.s1.lo, i64 B.s1.hi, i64 B.el, i64 B.eh, i64 B.sink, i64 B.under, .slice sa B.sounds.length sc] 30 (0, 0)) := (Below.block hR _ hyCl).trans hyC
              have hyc := cells_of hyA
              have hyf := frozen_of hyA
              have hyl := (Array.getElem?_eq_some_iff.1 hyA).1
              have hbA := hbC.trans (Below.mono hR (Nat.le_of_lt hyCl))
              have hTXA := (hTXC.same (Same.of_below hR)).up (Below.size hR)
              obtain ⟨e1, e2, e3, e4⟩ := set4 hyA 5 (i64 (B.s1.fl + n)) (i64 (B.s1.fh + n)) (i64 (B.s1.lo + n)) (i64 (B.s1.hi + n))
              have hTXE := spans_but hTXA hgy e2 e3
              clear hR
              go_wp2_with fail
              refine ⟨⟨2, by omega, rfl, rfl, rfl, rfl, rfl, rfl, rfl, rfl, rfl, rfl, e4 y w2 (Nat.le_refl _) hbA, e1, hTXE⟩, ?_⟩
              show 2 - (((1 : Int) + 1)).toNat < 2 - ((1 : Nat) : Int).toNat
              decide
          · have hlt2 : ¬ ((2 : Nat) : Int) < 2 := by decide
            have ha3 := hay _ hb3
            have hG3 := hGy _ hb3
            have hB3 := hB0.below ha3
            have hX3 : W3.heap[y]? = some (.cells (bookCells (upB B n) ga gc sa sc) 30 (0, 0)) := hy3
            have hC3 : BookV W3 (bookVal (upB B n) ga gc sa sc) (upB B n) := ⟨gb, 0, ga, gc, sb, sq, sa, sc, rfl, hTX3, (hS.same (Same.of_below ha3)).up ha3.size⟩
            clear hgy hTX3 hy3 hb3 hXl hay hGy hxy hwy hB0 hG hxc hxl hws0 hws1 hwl0 hwh0 hwl1 hwh1 hV
            obtain ⟨X, hXe⟩ : ∃ X, upB B n = X := ⟨_, rfl⟩
            rw [hXe] at hX3 hC3 hlaw
            obtain ⟨w3, hw3⟩ : ∃ w3, W3 = w3 := ⟨_, rfl⟩
            subst hw3
            clear hXe
            rcases hlaw with hc | ⟨hc, ⟨a, b, a2, b2, e, hH, hH2, hcase, hra, hrb⟩, hL, hM, hF, hBo, hW, hW2⟩
            · have hc := Lib.hid hc
              go_wp2_with (refine ld30 rfl _ rfl _ _ rfl hX3 rfl ?_)
              refine (check_v hC3).mono ?_
              rintro e w4 ⟨rfl, hb4⟩
              rw [hc.out]
              have hx4 := (hb4.block _ (Array.getElem?_eq_some_iff.1 hx3).1).trans hx3
              have hX4 := (hb4.block _ (Array.getElem?_eq_some_iff.1 hX3).1).trans hX3
              have hB4 := hB3.below hb4
              have hC4 := hC3.below hb4
              have hG4 := hG3.below hb4
              have ha4 := ha3.trans (hb4.mono ha3.size)
              clear hx3 hX3 hB3 hC3 hG3 ha3
              clear hb4
              go_wp2_with (go_at_call 18; refine (moored_any _ hG4).mono ?_; rintro e w5 ⟨rfl, hb5⟩)
              go_ret
              exact ⟨rfl, ha4.trans (hb5.mono ha4.size)⟩
            · have hc := Lib.hid hc
              have hH := Lib.hid hH
              have hH2 := Lib.hid hH2
              obtain ⟨k, ki, hL1⟩ : ∃ k ki, Hid (landsR B s hr ld = (k, ki)) := ⟨_, _, Lib.hid rfl⟩
              have hL2 := Lib.hid (hL.trans hL1.out)
              obtain ⟨m, mi, hM1⟩ : ∃ m mi, Hid (mostR B s hr = (m, mi)) := ⟨_, _, Lib.hid rfl⟩
              have hM2 := Lib.hid (hM.trans hM1.out)
              obtain ⟨f, fi, hF1⟩ : ∃ f fi, Hid (firstR B s ld = (f, fi)) := ⟨_, _, Lib.hid rfl⟩
              have hF2 := Lib.hid (hF.trans hF1.out)
              obtain ⟨L, li, hO1⟩ : ∃ L li, Hid (bothR B ld = (L, li)) := ⟨_, _, Lib.hid rfl⟩
              have hO2 := Lib.hid (hBo.trans hO1.out)
              obtain ⟨Z, zi, hZ1⟩ : ∃ Z zi, wrongR B = (Z, zi) := ⟨_, _, rfl⟩
              have hzi : zi = 0 := by rw [hZ1] at hW2; exact hW2
              subst hzi
              have hZ2 := Lib.hid (hW.trans hZ1)
              have hZ1 := Lib.hid hZ1
              clear hL hM hF hBo hW hW2
              go_wp2_with (refine ld30 rfl _ rfl _ _ rfl hX3 rfl ?_)
              refine (check_v hC3).mono ?_
              rintro e w4 ⟨rfl, hb4⟩
              rw [hc.out]
              have hx4 := (hb4.block _ (Array.getElem?_eq_some_iff.1 hx3).1).trans hx3
              have hX4 := (hb4.block _ (Array.getElem?_eq_some_iff.1 hX3).1).trans hX3
              have hB4 := hB3.below hb4
              have hC4 := hC3.below hb4
              have hG4 := hG3.below hb4
              have ha4 := ha3.trans (hb4.mono ha3.size)
              clear hx3 hX3 hB3 hC3 hG3 ha3
              clear hb4
              go_wp2_with (refine ld30 rfl _ rfl _ _ rfl hx4 rfl ?_)
              refine (height_v hG4 hB4 hr).mono ?_
              rintro e w5 ⟨rfl, hb5⟩
              rw [hH.out]
              have hx5 := (hb5.block _ (Array.getElem?_eq_some_iff.1 hx4).1).trans hx4
              have hX5 := (hb5.block _ (Array.getElem?_eq_some_iff.1 hX4).1).trans hX4
              have hB5 := hB4.below hb5
              have hC5 := hC4.below hb5
              have hG5 := hG4.below hb5
              have ha5 := ha4.trans (hb5.mono ha4.size)
              clear hx4 hX4 hB4 hC4 hG4 ha4
              clear hb5
              obtain ⟨hb6, hp6⟩ := box24v w5 a b
              have hx6 := (hb6.block _ (Array.getElem?_eq_some_iff.1 hx5).1).trans hx5
              have hX6 := (hb6.block _ (Array.getElem?_eq_some_iff.1 hX5).1).trans hX5
              have hB6 := hB5.below hb6
              have hC6 := hC5.below hb6
              have hG6 := hG5.below hb6
              have ha6 := ha5.trans (hb6.mono ha5.size)
              clear hx5 hX5 hB5 hC5 hG5 ha5
              clear hb6
              go_wp2_with (refine ld30 rfl _ rfl _ _ rfl hX6 rfl ?_)
              refine (height_v hG6 hC6 hr).mono ?_
              rintro e w7 ⟨rfl, hb7⟩
              rw [hH2.out]
              have hx7 := (hb7.block _ (Array.getElem?_eq_some_iff.1 hx6).1).trans hx6
              have hX7 := (hb7.block _ (Array.getElem?_eq_some_iff.1 hX6).1).trans hX6
              have hp7 := (hb7.block _ (Array.getElem?_eq_some_iff.1 hp6).1).trans hp6
              have hB7 := hB6.below hb7
              have hC7 := hC6.below hb7
              have hG7 := hG6.below hb7
              have ha7 := ha6.trans (hb7.mono ha6.size)
              clear hx6 hX6 hp6 hB6 hC6 hG6 ha6
              clear hb7
              obtain ⟨hb8, hq8⟩ := box24v w7 a2 b2
              have hx8 := (hb8.block _ (Array.getElem?_eq_some_iff.1 hx7).1).trans hx7
              have hX8 := (hb8.block _ (Array.getElem?_eq_some_iff.1 hX7).1).trans hX7
              have hp8 := (hb8.block _ (Array.getElem?_eq_some_iff.1 hp7).1).trans hp7
              have hB8 := hB7.below hb8
              have hC8 := hC7.below hb8
              have hG8 := hG7.below hb8
              have ha8 := ha7.trans (hb8.mono ha7.size)
              clear hx7 hX7 hp7 hB7 hC7 hG7 ha7
              clear hb8
              go_upto_region 20 with fail
              obtain ⟨w8, hw8⟩ : ∃ w8, w7.alloc (.cells #[i64 a2, i64 b2] 24) = w8 := ⟨_, rfl⟩
              obtain ⟨p, hpe⟩ : ∃ p, w5.heap.size = p := ⟨_, rfl⟩
              obtain ⟨q, hqe⟩ : ∃ q, w7.heap.size = q := ⟨_, rfl⟩
              rw [hw8] at hx8 hX8 hp8 hq8 hB8 hC8 hG8 ha8 ⊢
              rw [hpe] at hp8 ⊢
              rw [hqe] at hq8 ⊢
              clear hw8 hpe hqe
              have hpl8 := (Array.getElem?_eq_some_iff.1 hp8).1
              have hql8 := (Array.getElem?_eq_some_iff.1 hq8).1
              go_cut [129] (fun c wx => c = .bool false ∧ Below w8.heap.size w8 wx)
              case first =>
                rcases hcase with ⟨rfl, rfl, rfl⟩ | ⟨rfl, rfl, rfl⟩
                · skip
                  refine rg_region rdHi20e22 pureHi20e22 (gHi20e22 ) BR (by kernel_rfl) (by kernel_rfl) (fun n => BR.drawn _ n) BR.refl (fun _ _ _ => BR.trans) ?_ ?_ ?_
                  · intro i hi vs wA wB hG hR
                    match i, hi, hG with
                    | 0, _, hG => exact hG
                    | 1, _, hG => exact hG
                    | 2, _, hG => exact hG
                    | 3, _, hG => exact hG
                    | 4, _, hG => exact hG
                    | 5, _, hG => exact hG
                    | 6, _, hG => exact hG
                    | 7, _, _ => trivial
                    | 8, _, _ => trivial
                    | 9, _, _ => trivial
                    | 10, _, _ => trivial
                    | 11, _, _ => trivial
                    | 12, _, hG => exact hG
                    | 13, _, hG => exact hG
                    | _ + 14, _, _ => trivial
                  · intro i op ho act wA hR hF hD
                    have sz : act.tmps.size = 249 := hF.size
                    match i, ho, hD with
                    | 0, ho, hD =>
                      cases ho
                      have e15 := slot_tmps (show slotOf act 15 = i64 22 from hF.slot 15 (by kernel_rfl))
                      refine rgw_val (wanted_none rfl) (i64 22) (by simp [go_sem, e15]) (BR.refl _) ?_
                      exact congrArg (fun v => [v]) (slotOf_same act 116 _ (by omega))
                    | 1, ho, hD =>
                      cases ho
                      have e17 := slot_tmps (show slotOf act 17 = i64 22 from hF.slot 17 (by kernel_rfl))
                      refine rgw_val (wanted_none rfl) (i64 22) (by simp [go_sem, e17]) (BR.refl _) ?_
                      exact congrArg (fun v => [v]) (slotOf_same act 117 _ (by omega))
                    | 2, ho, hD =>
                      cases ho
                      have e116 := slot_tmps (List.cons.inj (hD 0 (by decide))).1
                      have e117 := slot_tmps (List.cons.inj (hD 1 (by decide))).1
                      refine rgw_val (wanted_none rfl) (.bool false) (by simp [go_sem, e116, e117]) (BR.refl _) ?_
                      exact congrArg (fun v => [v]) (slotOf_same act 118 _ (by omega))
                    | 3, ho, hD =>
                      cases ho
                      have e118 := slot_tmps (List.cons.inj (hD 2 (by decide))).1
                      refine rgw_val (wanted_none rfl) (.bool false) (by simp [go_sem, e118]) (BR.refl _) ?_
                      exact congrArg (fun v => [v]) (slotOf_same act 119 _ (by omega))
                    | 4, ho, hD =>
                      cases ho
                      have dj : slotOf act 119 = .bool false := (List.cons.inj (hD 3 (by decide))).1
                      have e15 := slot_tmps (show slotOf act 15 = i64 22 from hF.slot 15 (by kernel_rfl))
                      refine rgw_val (by rw [wanted_of (d := 119) rfl rfl dj]; rfl) (i64 22) (by simp [go_sem, e15]) (BR.refl _) ?_
                      exact congrArg (fun v => [v]) (slotOf_same act 120 _ (by omega))
                    | 5, ho, hD =>
                      cases ho
                      have dj : slotOf act 119 = .bool false := (List.cons.inj (hD 3 (by decide))).1
                      have e120 := slot_tmps (List.cons.inj (hD 4 (by decide))).1
                      refine rgw_val (by rw [wanted_of (d := 119) rfl rfl dj]; rfl) (.bool false) (by simp [go_sem, e120]) (BR.refl _) ?_
                      exact congrArg (fun v => [v]) (slotOf_same act 121 _ (by omega))
                    | 6, ho, hD =>
                      cases ho
                      have dj : slotOf act 119 = .bool false := (List.cons.inj (hD 3 (by decide))).1
                      have e121 := slot_tmps (List.cons.inj (hD 5 (by decide))).1
                      refine rgw_val (by rw [wanted_of (d := 119) rfl rfl dj]; rfl) (.bool false) (by simp [go_sem, e121]) (BR.refl _) ?_
                      exact congrArg (fun v => [v]) (slotOf_same act 122 _ (by omega))
                    | 7, ho, hD =>
                      cases ho
                      have dj : slotOf act 122 = .bool false := (List.cons.inj (hD 6 (by decide))).1
                      refine rgw_skip (by rw [wanted_of (d := 122) rfl rfl dj]; rfl) ?_
                      trivial
                    | 8, ho, hD =>
                      cases ho
                      have dj : slotOf act 122 = .bool false := (List.cons.inj (hD 6 (by decide))).1
                      refine rgw_skip (by rw [wanted_of (d := 122) rfl rfl dj]; rfl) ?_
                      trivial
                    | 9, ho, hD =>
                      cases ho
                      have dj : slotOf act 122 = .bool false := (List.cons.inj (hD 6 (by decide))).1
                      refine rgw_skip (by rw [wanted_of (d := 122) rfl rfl dj]; rfl) ?_
                      trivial
                    | 10, ho, hD =>
                      cases ho
                      have dj : slotOf act 122 = .bool false := (List.cons.inj (hD 6 (by decide))).1
                      refine rgw_skip (by rw [wanted_of (d := 122) rfl rfl dj]; rfl) ?_
                      trivial
                    | 11, ho, hD =>
                      cases ho
                      have dj : slotOf act 122 = .bool false := (List.cons.inj (hD 6 (by decide))).1
                      refine rgw_skip (by rw [wanted_of (d := 122) rfl rfl dj]; rfl) ?_
                      trivial
                    | 12, ho, hD =>
                      cases ho
                      have dj : slotOf act 119 = .bool false := (List.cons.inj (hD 3 (by decide))).1
                      have e122 := slot_tmps (List.cons.inj (hD 6 (by decide))).1
                      refine rgw_val (by rw [wanted_of (d := 119) rfl rfl dj]; rfl) (.bool false) (by simp [go_sem, e122]) (BR.refl _) ?_
                      exact congrArg (fun v => [v]) (slotOf_same act 128 _ (by omega))
                    | 13, ho, hD =>
                      cases ho
                      have e119 := slot_tmps (List.cons.inj (hD 3 (by decide))).1
                      have e128 := slot_tmps (List.cons.inj (hD 12 (by decide))).1
                      refine rgw_val (wanted_none rfl) (.bool false) (by simp [go_sem, e119, e128]) (BR.refl _) ?_
                      exact congrArg (fun v => [v]) (slotOf_same act 129 _ (by omega))
                    | _ + 14, ho, _ => cases ho
                  · intro act wA hR hF hA
                    have f0 : slotOf act 0 = slotOf actJ 0 := hF.slot 0 (by kernel_rfl)
                    have f1 : slotOf act 1 = slotOf actJ 1 := hF.slot 1 (by kernel_rfl)
                    have f2 : slotOf act 2 = .pointer (some ⟨w.heap.size, 0, none⟩) := hF.slot 2 (by kernel_rfl)
                    have f3 : slotOf act 3 = slotOf actJ 3 := hF.slot 3 (by kernel_rfl)
                    have f4 : slotOf act 4 = .bool false := hF.slot 4 (by kernel_rfl)
                    have f5 : slotOf act 5 = i64 s := hF.slot 5 (by kernel_rfl)
                    have f6 : slotOf act 6 = i64 hr := hF.slot 6 (by kernel_rfl)
                    have f7 : slotOf act 7 = i64 ld := hF.slot 7 (by kernel_rfl)
                    have f8 : slotOf act 8 = i64 n := hF.slot 8 (by kernel_rfl)
                    have f9 : slotOf act 9 = .pointer (some ⟨y, 0, none⟩) := hF.slot 9 (by kernel_rfl)
                    have f10 : slotOf act 10 = slotOf actJ 10 := hF.slot 10 (by kernel_rfl)
                    have f11 : slotOf act 11 = i64 2 := hF.slot 11 (by kernel_rfl)
                    have f12 : slotOf act 12 = slotOf actJ 12 := hF.slot 12 (by kernel_rfl)
                    have f13 : slotOf act 13 = i64 0 := hF.slot 13 (by kernel_rfl)
                    have f14 : slotOf act 14 = .pointer (some ⟨p, 0, none⟩) := hF.slot 14 (by kernel_rfl)
                    have f15 : slotOf act 15 = i64 22 := hF.slot 15 (by kernel_rfl)
                    have f16 : slotOf act 16 = .pointer (some ⟨q, 0, none⟩) := hF.slot 16 (by kernel_rfl)
                    have f17 : slotOf act 17 = i64 22 := hF.slot 17 (by kernel_rfl)
                    have f18 : slotOf act 18 = slotOf actJ 18 := hF.slot 18 (by kernel_rfl)
                    have f19 : slotOf act 19 = slotOf actJ 19 := hF.slot 19 (by kernel_rfl)
                    have f20 : slotOf act 20 = slotOf actJ 20 := hF.slot 20 (by kernel_rfl)
                    have f21 : slotOf act 21 = slotOf actJ 21 := hF.slot 21 (by kernel_rfl)
                    have f22 : slotOf act 22 = slotOf actJ 22 := hF.slot 22 (by kernel_rfl)
                    have f23 : slotOf act 23 = slotOf actJ 23 := hF.slot 23 (by kernel_rfl)
                    have f24 : slotOf act 24 = slotOf actJ 24 := hF.slot 24 (by kernel_rfl)
                    have f25 : slotOf act 25 = slotOf actJ 25 := hF.slot 25 (by kernel_rfl)
                    have f26 : slotOf act 26 = slotOf actJ 26 := hF.slot 26 (by kernel_rfl)
                    have f27 : slotOf act 27 = slotOf actJ 27 := hF.slot 27 (by kernel_rfl)
                    have f28 : slotOf act 28 = slotOf actJ 28 := hF.slot 28 (by kernel_rfl)
                    have f29 : slotOf act 29 = slotOf actJ 29 := hF.slot 29 (by kernel_rfl)
                    have f116 : slotOf act 116 = i64 22 := (List.cons.inj (hA 0 (by decide))).1
                    have f117 : slotOf act 117 = i64 22 := (List.cons.inj (hA 1 (by decide))).1
                    have f118 : slotOf act 118 = .bool false := (List.cons.inj (hA 2 (by decide))).1
                    have f119 : slotOf act 119 = .bool false := (List.cons.inj (hA 3 (by decide))).1
                    have f120 : slotOf act 120 = i64 22 := (List.cons.inj (hA 4 (by decide))).1
                    have f121 : slotOf act 121 = .bool false := (List.cons.inj (hA 5 (by decide))).1
                    have f122 : slotOf act 122 = .bool false := (List.cons.inj (hA 6 (by decide))).1
                    have f128 : slotOf act 128 = .bool false := (List.cons.inj (hA 12 (by decide))).1
                    have f129 : slotOf act 129 = .bool false := (List.cons.inj (hA 13 (by decide))).1
                    rw [act_eta act 249 hF.size hF.defers]
                    simp only [show List.range 249 = [0, 1, 2, 3, 4, 5, 6, 7, 8, 9, 10, 11, 12, 13, 14, 15, 16, 17, 18, 19, 20, 21, 22, 23, 24, 25, 26, 27, 28, 29, 30, 31, 32, 33, 34, 35, 36, 37, 38, 39, 40, 41, 42, 43, 44, 45, 46, 47, 48, 49, 50, 51, 52, 53, 54, 55, 56, 57, 58, 59, 60, 61, 62, 63, 64, 65, 66, 67, 68, 69, 70, 71, 72, 73, 74, 75, 76, 77, 78, 79, 80, 81, 82, 83, 84, 85, 86, 87, 88, 89, 90, 91, 92, 93, 94, 95, 96, 97, 98, 99, 100, 101, 102, 103, 104, 105, 106, 107, 108, 109, 110, 111, 112, 113, 114, 115, 116, 117, 118, 119, 120, 121, 122, 123, 124, 125, 126, 127, 128, 129, 130, 131, 132, 133, 134, 135, 136, 137, 138, 139, 140, 141, 142, 143, 144, 145, 146, 147, 148, 149, 150, 151, 152, 153, 154, 155, 156, 157, 158, 159, 160, 161, 162, 163, 164, 165, 166, 167, 168, 169, 170, 171, 172, 173, 174, 175, 176, 177, 178, 179, 180, 181, 182, 183, 184, 185, 186, 187, 188, 189, 190, 191, 192, 193, 194, 195, 196, 197, 198, 199, 200, 201, 202, 203, 204, 205, 206, 207, 208, 209, 210, 211, 212, 213, 214, 215, 216, 217, 218, 219, 220, 221, 222, 223, 224, 225, 226, 227, 228, 229, 230, 231, 232, 233, 234, 235, 236, 237, 238, 239, 240, 241, 242, 243, 244, 245, 246, 247, 248] from rfl, List.map_cons, List.map_nil, f0, f1, f2, f3, f4, f5, f6, f7, f8, f9, f10, f11, f12, f13, f14, f15, f16, f17, f18, f19, f20, f21, f22, f23, f24, f25, f26, f27, f28, f29, f116, f117, f118, f119, f120, f121, f122, f128, f129]
                    clear hA hF f0 f1 f2 f3 f4 f5 f6 f7 f8 f9 f10 f11 f12 f13 f14 f15 f16 f17 f18 f19 f20 f21 f22 f23 f24 f25 f26 f27 f28 f29 f116 f117 f118 f119 f120 f121 f122 f128 f129
                    go_wp2_with fail
                    go_meet
                    case rel => exact ⟨rfl, hR⟩
                · skip
                  refine rg_region rdHi20e0 pureHi20e0 (gHi20e0 a b n) BR (by kernel_rfl) (by kernel_rfl) (fun n => BR.drawn _ n) BR.refl (fun _ _ _ => BR.trans) ?_ ?_ ?_
                  · intro i hi vs wA wB hG hR
                    match i, hi, hG with
                    | 0, _, hG => exact hG
                    | 1, _, hG => exact hG
                    | 2, _, hG => exact hG
                    | 3, _, hG => exact hG
                    | 4, _, hG => exact hG
                    | 5, _, hG => exact hG
                    | 6, _, hG => exact hG
                    | 7, _, hG => exact hG
                    | 8, _, hG => exact hG
                    | 9, _, hG => exact hG
                    | 10, _, hG => exact hG
                    | 11, _, hG => exact hG
                    | 12, _, hG => exact hG
                    | 13, _, hG => exact hG
                    | _ + 14, _, _ => trivial
                  · intro i op ho act wA hR hF hD
                    have sz : act.tmps.size = 249 := hF.size
                    match i, ho, hD with
                    | 0, ho, hD =>
                      cases ho
                      have e15 := slot_tmps (show slotOf act 15 = i64 0 from hF.slot 15 (by kernel_rfl))
                      refine rgw_val (wanted_none rfl) (i64 0) (by simp [go_sem, e15]) (BR.refl _) ?_
                      exact congrArg (fun v => [v]) (slotOf_same act 116 _ (by omega))
                    | 1, ho, hD =>
                      cases ho
                      have e17 := slot_tmps (show slotOf act 17 = i64 0 from hF.slot 17 (by kernel_rfl))
                      refine rgw_val (wanted_none rfl) (i64 0) (by simp [go_sem, e17]) (BR.refl _) ?_
                      exact congrArg (fun v => [v]) (slotOf_same act 117 _ (by omega))
                    | 2, ho, hD =>
                      cases ho
                      have e116 := slot_tmps (List.cons.inj (hD 0 (by decide))).1
                      have e117 := slot_tmps (List.cons.inj (hD 1 (by decide))).1
                      refine rgw_val (wanted_none rfl) (.bool false) (by simp [go_sem, e116, e117]) (BR.refl _) ?_
                      exact congrArg (fun v => [v]) (slotOf_same act 118 _ (by omega))
                    | 3, ho, hD =>
                      cases ho
                      have e118 := slot_tmps (List.cons.inj (hD 2 (by decide))).1
                      refine rgw_val (wanted_none rfl) (.bool false) (by simp [go_sem, e118]) (BR.refl _) ?_
                      exact congrArg (fun v => [v]) (slotOf_same act 119 _ (by omega))
                    | 4, ho, hD =>
                      cases ho
                      have dj : slotOf act 119 = .bool false := (List.cons.inj (hD 3 (by decide))).1
                      have e15 := slot_tmps (show slotOf act 15 = i64 0 from hF.slot 15 (by kernel_rfl))
                      refine rgw_val (by rw [wanted_of (d := 119) rfl rfl dj]; rfl) (i64 0) (by simp [go_sem, e15]) (BR.refl _) ?_
                      exact congrArg (fun v => [v]) (slotOf_same act 120 _ (by omega))
                    | 5, ho, hD =>
                      cases ho
                      have dj : slotOf act 119 = .bool false := (List.cons.inj (hD 3 (by decide))).1
                      have e120 := slot_tmps (List.cons.inj (hD 4 (by decide))).1
                      refine rgw_val (by rw [wanted_of (d := 119) rfl rfl dj]; rfl) (.bool true) (by simp [go_sem, e120]) (BR.refl _) ?_
                      exact congrArg (fun v => [v]) (slotOf_same act 121 _ (by omega))
                    | 6, ho, hD =>
                      cases ho
                      have dj : slotOf act 119 = .bool false := (List.cons.inj (hD 3 (by decide))).1
                      have e121 := slot_tmps (List.cons.inj (hD 5 (by decide))).1
                      refine rgw_val (by rw [wanted_of (d := 119) rfl rfl dj]; rfl) (.bool true) (by simp [go_sem, e121]) (BR.refl _) ?_
                      exact congrArg (fun v => [v]) (slotOf_same act 122 _ (by omega))
                    | 7, ho, hD =>
                      cases ho
                      have dj : slotOf act 122 = .bool true := (List.cons.inj (hD 6 (by decide))).1
                      have e16 := slot_tmps (show slotOf act 16 = .pointer (some ⟨q, 0, none⟩) from hF.slot 16 (by kernel_rfl))
                      have hqA := (Below.block hR _ hql8).trans hq8
                      have hqc := cells_of hqA
                      refine rgw_val (by rw [wanted_of (d := 122) rfl rfl dj]; rfl) (.agg #[i64 (a + n), i64 (b + n)]) (by simp [go_sem, e16, hqc]) (BR.refl _) ?_
                      exact congrArg (fun v => [v]) (slotOf_same act 123 _ (by omega))
                    | 8, ho, hD =>
                      cases ho
                      have dj : slotOf act 122 = .bool true := (List.cons.inj (hD 6 (by decide))).1
                      have e14 := slot_tmps (show slotOf act 14 = .pointer (some ⟨p, 0, none⟩) from hF.slot 14 (by kernel_rfl))
                      have hpA := (Below.block hR _ hpl8).trans hp8
                      have hpc := cells_of hpA
                      refine rgw_val (by rw [wanted_of (d := 122) rfl rfl dj]; rfl) (.agg #[i64 a, i64 b]) (by simp [go_sem, e14, hpc]) (BR.refl _) ?_
                      exact congrArg (fun v => [v]) (slotOf_same act 124 _ (by omega))
                    | 9, ho, hD =>
                      cases ho
                      have dj : slotOf act 122 = .bool true := (List.cons.inj (hD 6 (by decide))).1
                      have e8 := slot_tmps (show slotOf act 8 = i64 n from hF.slot 8 (by kernel_rfl))
                      refine rgw_val (by rw [wanted_of (d := 122) rfl rfl dj]; rfl) (i64 n) (by simp [go_sem, e8]) (BR.refl _) ?_
                      exact congrArg (fun v => [v]) (slotOf_same act 125 _ (by omega))
                    | 10, ho, hD =>
                      cases ho
                      have dj : slotOf act 122 = .bool true := (List.cons.inj (hD 6 (by decide))).1
                      have e124 := slot_tmps (List.cons.inj (hD 8 (by decide))).1
                      have e125 := slot_tmps (List.cons.inj (hD 9 (by decide))).1
                      refine rgw_call (by rw [wanted_of (d := 122) rfl rfl dj]; rfl) 49 #[.agg #[i64 a, i64 b], i64 n] (by simp [go_sem, e124, e125]) rfl ?_
                      refine (up_any a b n _ ⟨by omega, by omega⟩ ⟨by omega, by omega⟩ hn).mono ?_
                      rintro e wB ⟨rfl, hb⟩
                      exact ⟨_, rfl, hb, congrArg (fun v => [v]) (slotOf_same act 126 _ (by omega))⟩
                    | 11, ho, hD =>
                      cases ho
                      have dj : slotOf act 122 = .bool true := (List.cons.inj (hD 6 (by decide))).1
                      have e123 := slot_tmps (List.cons.inj (hD 7 (by decide))).1
                      have e126 := slot_tmps (List.cons.inj (hD 10 (by decide))).1
                      refine rgw_val (by rw [wanted_of (d := 122) rfl rfl dj]; rfl) (.bool false) (by simp [go_sem, e123, e126]) (BR.refl _) ?_
                      exact congrArg (fun v => [v]) (slotOf_same act 127 _ (by omega))
                    | 12, ho, hD =>
                      cases ho
                      have dj : slotOf act 119 = .bool false := (List.cons.inj (hD 3 (by decide))).1
                      have e122 := slot_tmps (List.cons.inj (hD 6 (by decide))).1
                      have e127 := slot_tmps (List.cons.inj (hD 11 (by decide))).1
                      refine rgw_val (by rw [wanted_of (d := 119) rfl rfl dj]; rfl) (.bool false) (by simp [go_sem, e122, e127]) (BR.refl _) ?_
                      exact congrArg (fun v => [v]) (slotOf_same act 128 _ (by omega))
                    | 13, ho, hD =>
                      cases ho
                      have e119 := slot_tmps (List.cons.inj (hD 3 (by decide))).1
                      have e128 := slot_tmps (List.cons.inj (hD 12 (by decide))).1
                      refine rgw_val (wanted_none rfl) (.bool false) (by simp [go_sem, e119, e128]) (BR.refl _) ?_
                      exact congrArg (fun v => [v]) (slotOf_same act 129 _ (by omega))
                    | _ + 14, ho, _ => cases ho
                  · intro act wA hR hF hA
                    have f0 : slotOf act 0 = slotOf actJ 0 := hF.slot 0 (by kernel_rfl)
                    have f1 : slotOf act 1 = slotOf actJ 1 := hF.slot 1 (by kernel_rfl)
                    have f2 : slotOf act 2 = .pointer (some ⟨w.heap.size, 0, none⟩) := hF.slot 2 (by kernel_rfl)
                    have f3 : slotOf act 3 = slotOf actJ 3 := hF.slot 3 (by kernel_rfl)
                    have f4 : slotOf act 4 = .bool false := hF.slot 4 (by kernel_rfl)
                    have f5 : slotOf act 5 = i64 s := hF.slot 5 (by kernel_rfl)
                    have f6 : slotOf act 6 = i64 hr := hF.slot 6 (by kernel_rfl)
                    have f7 : slotOf act 7 = i64 ld := hF.slot 7 (by kernel_rfl)
                    have f8 : slotOf act 8 = i64 n := hF.slot 8 (by kernel_rfl)
                    have f9 : slotOf act 9 = .pointer (some ⟨y, 0, none⟩) := hF.slot 9 (by kernel_rfl)
                    have f10 : slotOf act 10 = slotOf actJ 10 := hF.slot 10 (by kernel_rfl)
                    have f11 : slotOf act 11 = i64 2 := hF.slot 11 (by kernel_rfl)
                    have f12 : slotOf act 12 = slotOf actJ 12 := hF.slot 12 (by kernel_rfl)
                    have f13 : slotOf act 13 = i64 0 := hF.slot 13 (by kernel_rfl)
                    have f14 : slotOf act 14 = .pointer (some ⟨p, 0, none⟩) := hF.slot 14 (by kernel_rfl)
                    have f15 : slotOf act 15 = i64 0 := hF.slot 15 (by kernel_rfl)
                    have f16 : slotOf act 16 = .pointer (some ⟨q, 0, none⟩) := hF.slot 16 (by kernel_rfl)
                    have f17 : slotOf act 17 = i64 0 := hF.slot 17 (by kernel_rfl)
                    have f18 : slotOf act 18 = slotOf actJ 18 := hF.slot 18 (by kernel_rfl)
                    have f19 : slotOf act 19 = slotOf actJ 19 := hF.slot 19 (by kernel_rfl)
                    have f20 : slotOf act 20 = slotOf actJ 20 := hF.slot 20 (by kernel_rfl)
                    have f21 : slotOf act 21 = slotOf actJ 21 := hF.slot 21 (by kernel_rfl)
                    have f22 : slotOf act 22 = slotOf actJ 22 := hF.slot 22 (by kernel_rfl)
                    have f23 : slotOf act 23 = slotOf actJ 23 := hF.slot 23 (by kernel_rfl)
                    have f24 : slotOf act 24 = slotOf actJ 24 := hF.slot 24 (by kernel_rfl)
                    have f25 : slotOf act 25 = slotOf actJ 25 := hF.slot 25 (by kernel_rfl)
                    have f26 : slotOf act 26 = slotOf actJ 26 := hF.slot 26 (by kernel_rfl)
                    have f27 : slotOf act 27 = slotOf actJ 27 := hF.slot 27 (by kernel_rfl)
                    have f28 : slotOf act 28 = slotOf actJ 28 := hF.slot 28 (by kernel_rfl)
                    have f29 : slotOf act 29 = slotOf actJ 29 := hF.slot 29 (by kernel_rfl)
                    have f116 : slotOf act 116 = i64 0 := (List.cons.inj (hA 0 (by decide))).1
                    have f117 : slotOf act 117 = i64 0 := (List.cons.inj (hA 1 (by decide))).1
                    have f118 : slotOf act 118 = .bool false := (List.cons.inj (hA 2 (by decide))).1
                    have f119 : slotOf act 119 = .bool false := (List.cons.inj (hA 3 (by decide))).1
                    have f120 : slotOf act 120 = i64 0 := (List.cons.inj (hA 4 (by decide))).1
                    have f121 : slotOf act 121 = .bool true := (List.cons.inj (hA 5 (by decide))).1
                    have f122 : slotOf act 122 = .bool true := (List.cons.inj (hA 6 (by decide))).1
                    have f123 : slotOf act 123 = .agg #[i64 (a + n), i64 (b + n)] := (List.cons.inj (hA 7 (by decide))).1
                    have f124 : slotOf act 124 = .agg #[i64 a, i64 b] := (List.cons.inj (hA 8 (by decide))).1
                    have f125 : slotOf act 125 = i64 n := (List.cons.inj (hA 9 (by decide))).1
                    have f126 : slotOf act 126 = .agg #[i64 (a + n), i64 (b + n)] := (List.cons.inj (hA 10 (by decide))).1
                    have f127 : slotOf act 127 = .bool false := (List.cons.inj (hA 11 (by decide))).1
                    have f128 : slotOf act 128 = .bool false := (List.cons.inj (hA 12 (by decide))).1
                    have f129 : slotOf act 129 = .bool false := (List.cons.inj (hA 13 (by decide))).1
                    rw [act_eta act 249 hF.size hF.defers]
                    simp only [show List.range 249 = [0, 1, 2, 3, 4, 5, 6, 7, 8, 9, 10, 11, 12, 13, 14, 15, 16, 17, 18, 19, 20, 21, 22, 23, 24, 25, 26, 27, 28, 29, 30, 31, 32, 33, 34, 35, 36, 37, 38, 39, 40, 41, 42, 43, 44, 45, 46, 47, 48, 49, 50, 51, 52, 53, 54, 55, 56, 57, 58, 59, 60, 61, 62, 63, 64, 65, 66, 67, 68, 69, 70, 71, 72, 73, 74, 75, 76, 77, 78, 79, 80, 81, 82, 83, 84, 85, 86, 87, 88, 89, 90, 91, 92, 93, 94, 95, 96, 97, 98, 99, 100, 101, 102, 103, 104, 105, 106, 107, 108, 109, 110, 111, 112, 113, 114, 115, 116, 117, 118, 119, 120, 121, 122, 123, 124, 125, 126, 127, 128, 129, 130, 131, 132, 133, 134, 135, 136, 137, 138, 139, 140, 141, 142, 143, 144, 145, 146, 147, 148, 149, 150, 151, 152, 153, 154, 155, 156, 157, 158, 159, 160, 161, 162, 163, 164, 165, 166, 167, 168, 169, 170, 171, 172, 173, 174, 175, 176, 177, 178, 179, 180, 181, 182, 183, 184, 185, 186, 187, 188, 189, 190, 191, 192, 193, 194, 195, 196, 197, 198, 199, 200, 201, 202, 203, 204, 205, 206, 207, 208, 209, 210, 211, 212, 213, 214, 215, 216, 217, 218, 219, 220, 221, 222, 223, 224, 225, 226, 227, 228, 229, 230, 231, 232, 233, 234, 235, 236, 237, 238, 239, 240, 241, 242, 243, 244, 245, 246, 247, 248] from rfl, List.map_cons, List.map_nil, f0, f1, f2, f3, f4, f5, f6, f7, f8, f9, f10, f11, f12, f13, f14, f15, f16, f17, f18, f19, f20, f21, f22, f23, f24, f25, f26, f27, f28, f29, f116, f117, f118, f119, f120, f121, f122, f123, f124, f125, f126, f127, f128, f129]
                    clear hA hF f0 f1 f2 f3 f4 f5 f6 f7 f8 f9 f10 f11 f12 f13 f14 f15 f16 f17 f18 f19 f20 f21 f22 f23 f24 f25 f26 f27 f28 f29 f116 f117 f118 f119 f120 f121 f122 f123 f124 f125 f126 f127 f128 f129
                    go_wp2_with fail
                    go_meet
                    case rel => exact ⟨rfl, hR⟩
              case rest =>
                obtain ⟨rfl, hb9⟩ := hcut
                have hx9 := (hb9.block _ (Array.getElem?_eq_some_iff.1 hx8).1).trans hx8
                have hX9 := (hb9.block _ (Array.getElem?_eq_some_iff.1 hX8).1).trans hX8
                have hB9 := hB8.below hb9
                have hC9 := hC8.below hb9
                have hG9 := hG8.below hb9
                have ha9 := ha8.trans (hb9.mono ha8.size)
                clear hx8 hX8 hB8 hC8 hG8 ha8
                clear hb9 hp8 hq8 hpl8 hql8 hcase hra hrb
                go_wp2_with (refine ld30 rfl _ rfl _ _ rfl hx9 rfl ?_)
                refine (lands_v hG9 hB9 s hr ld).mono ?_
                rintro e w10 ⟨rfl, hb10⟩
                rw [hL1.out]
                have hx10 := (hb10.block _ (Array.getElem?_eq_some_iff.1 hx9).1).trans hx9
                have hX10 := (hb10.block _ (Array.getElem?_eq_some_iff.1 hX9).1).trans hX9
                have hB10 := hB9.below hb10
                have hC10 := hC9.below hb10
                have hG10 := hG9.below hb10
                have ha10 := ha9.trans (hb10.mono ha9.size)
                clear hx9 hX9 hB9 hC9 hG9 ha9
                clear hb10
                go_wp2_with (refine ld30 rfl _ rfl _ _ rfl hX10 rfl ?_)
                refine (lands_v hG10 hC10 s hr ld).mono ?_
                rintro e w11 ⟨rfl, hb11⟩
                rw [hL2.out]
                have hx11 := (hb11.block _ (Array.getElem?_eq_some_iff.1 hx10).1).trans hx10
                have hX11 := (hb11.block _ (Array.getElem?_eq_some_iff.1 hX10).1).trans hX10
                have hB11 := hB10.below hb11
                have hC11 := hC10.below hb11
                have hG11 := hG10.below hb11
                have ha11 := ha10.trans (hb11.mono ha10.size)
                clear hx10 hX10 hB10 hC10 hG10 ha10
                clear hb11
                go_wp2_with (refine ld30 rfl _ rfl _ _ rfl hx11 rfl ?_)
                refine (most_v hG11 hB11 s hr).mono ?_
                rintro e w12 ⟨rfl, hb12⟩
                rw [hM1.out]
                have hx12 := (hb12.block _ (Array.getElem?_eq_some_iff.1 hx11).1).trans hx11
                have hX12 := (hb12.block _ (Array.getElem?_eq_some_iff.1 hX11).1).trans hX11
                have hB12 := hB11.below hb12
                have hC12 := hC11.below hb12
                have hG12 := hG11.below hb12
                have ha12 := ha11.trans (hb12.mono ha11.size)
                clear hx11 hX11 hB11 hC11 hG11 ha11
                clear hb12
                go_wp2_with (refine ld30 rfl _ rfl _ _ rfl hX12 rfl ?_)
                refine (most_v hG12 hC12 s hr).mono ?_
                rintro e w13 ⟨rfl, hb13⟩
                rw [hM2.out]
                have hx13 := (hb13.block _ (Array.getElem?_eq_some_iff.1 hx12).1).trans hx12
                have hX13 := (hb13.block _ (Array.getElem?_eq_some_iff.1 hX12).1).trans hX12
                have hB13 := hB12.below hb13
                have hC13 := hC12.below hb13
                have hG13 := hG12.below hb13
                have ha13 := ha12.trans (hb13.mono ha12.size)
                clear hx12 hX12 hB12 hC12 hG12 ha12
                clear hb13
                go_wp2_with (refine ld30 rfl _ rfl _ _ rfl hx13 rfl ?_)
                refine (first_v hG13 hB13 s ld).mono ?_
                rintro e w14 ⟨rfl, hb14⟩
                rw [hF1.out]
                have hx14 := (hb14.block _ (Array.getElem?_eq_some_iff.1 hx13).1).trans hx13
                have hX14 := (hb14.block _ (Array.getElem?_eq_some_iff.1 hX13).1).trans hX13
                have hB14 := hB13.below hb14
                have hC14 := hC13.below hb14
                have hG14 := hG13.below hb14
                have ha14 := ha13.trans (hb14.mono ha13.size)
                clear hx13 hX13 hB13 hC13 hG13 ha13
                clear hb14
                go_wp2_with (refine ld30 rfl _ rfl _ _ rfl hX14 rfl ?_)
                refine (first_v hG14 hC14 s ld).mono ?_
                rintro e w15 ⟨rfl, hb15⟩
                rw [hF2.out]
                have hx15 := (hb15.block _ (Array.getElem?_eq_some_iff.1 hx14).1).trans hx14
                have hX15 := (hb15.block _ (Array.getElem?_eq_some_iff.1 hX14).1).trans hX14
                have hB15 := hB14.below hb15
                have hC15 := hC14.below hb15
                have hG15 := hG14.below hb15
                have ha15 := ha14.trans (hb15.mono ha14.size)
                clear hx14 hX14 hB14 hC14 hG14 ha14
                clear hb15
                go_wp2_with (refine ld30 rfl _ rfl _ _ rfl hx15 rfl ?_)
                refine (both_v hG15 hB15 ld).mono ?_
                rintro e w16 ⟨v16, rfl, hb16, hP16⟩
                have hx16 := (hb16.block _ (Array.getElem?_eq_some_iff.1 hx15).1).trans hx15
                have hX16 := (hb16.block _ (Array.getElem?_eq_some_iff.1 hX15).1).trans hX15
                have hB16 := hB15.below hb16
                have hC16 := hC15.below hb16
                have hG16 := hG15.below hb16
                have ha16 := ha15.trans (hb16.mono ha15.size)
                clear hx15 hX15 hB15 hC15 hG15 ha15
                clear hb16
                rw [hO1.out] at hP16 ⊢
                obtain ⟨lb16, lo16, la16, lc16, rfl, hll16, hLI16⟩ := hP16
                have hP16 : ListV w16 (.slice la16 L.length lc16) L := ⟨lb16, lo16, la16, lc16, rfl, hll16, hLI16⟩
                clear hLI16
                go_wp2_with (refine ld30 rfl _ rfl _ _ rfl hX16 rfl ?_)
                refine (both_v hG16 hC16 ld).mono ?_
                rintro e w17 ⟨v17, rfl, hb17, hQ17⟩
                have hx17 := (hb17.block _ (Array.getElem?_eq_some_iff.1 hx16).1).trans hx16
                have hX17 := (hb17.block _ (Array.getElem?_eq_some_iff.1 hX16).1).trans hX16
                have hB17 := hB16.below hb17
                have hC17 := hC16.below hb17
                have hP17 := hP16.below hb17
                have hG17 := hG16.below hb17
                have ha17 := ha16.trans (hb17.mono ha16.size)
                clear hx16 hX16 hB16 hC16 hP16 hG16 ha16
                clear hb17
                rw [hO2.out] at hQ17 ⊢
                obtain ⟨lb17, lo17, la17, lc17, rfl, hll17, hLI17⟩ := hQ17
                have hQ17 : ListV w17 (.slice la17 L.length lc17) L := ⟨lb17, lo17, la17, lc17, rfl, hll17, hLI17⟩
                clear hLI17
                go_wp2_with (refine ld30 rfl _ rfl _ _ rfl hx17 rfl ?_)
                refine (wrong_v hG17 hB17).mono ?_
                rintro e w18 ⟨v18, rfl, hb18, hR18⟩
                have hx18 := (hb18.block _ (Array.getElem?_eq_some_iff.1 hx17).1).trans hx17
                have hX18 := (hb18.block _ (Array.getElem?_eq_some_iff.1 hX17).1).trans hX17
                have hB18 := hB17.below hb18
                have hC18 := hC17.below hb18
                have hP18 := hP17.below hb18
                have hQ18 := hQ17.below hb18
                have hG18 := hG17.below hb18
                have ha18 := ha17.trans (hb18.mono ha17.size)
                clear hx17 hX17 hB17 hC17 hP17 hQ17 hG17 ha17
                clear hb18
                rw [hZ1.out] at hR18 ⊢
                obtain ⟨lb18, lo18, la18, lc18, rfl, hll18, hLI18⟩ := hR18
                have hR18 : ListV w18 (.slice la18 Z.length lc18) Z := ⟨lb18, lo18, la18, lc18, rfl, hll18, hLI18⟩
                clear hLI18
                go_wp2_with (refine ld30 rfl _ rfl _ _ rfl hX18 rfl ?_)
                refine (wrong_v hG18 hC18).mono ?_
                rintro e w19 ⟨v19, rfl, hb19, hS19⟩
                have hx19 := (hb19.block _ (Array.getElem?_eq_some_iff.1 hx18).1).trans hx18
                have hX19 := (hb19.block _ (Array.getElem?_eq_some_iff.1 hX18).1).trans hX18
                have hB19 := hB18.below hb19
                have hC19 := hC18.below hb19
                have hP19 := hP18.below hb19
                have hQ19 := hQ18.below hb19
                have hR19 := hR18.below hb19
                have hG19 := hG18.below hb19
                have ha19 := ha18.trans (hb19.mono ha18.size)
                clear hx18 hX18 hB18 hC18 hP18 hQ18 hR18 hG18 ha18
                clear hb19
                rw [hZ2.out] at hS19 ⊢
                obtain ⟨lb19, lo19, la19, lc19, rfl, hll19, hLI19⟩ := hS19
                have hS19 : ListV w19 (.slice la19 Z.length lc19) Z := ⟨lb19, lo19, la19, lc19, rfl, hll19, hLI19⟩
                clear hLI19
                have hLL : Hid ((L == L) = true) := Lib.hid (by simp)
                have hZZ : Hid ((Z == Z) = true) := Lib.hid (by simp)
                go_wp2_with fail
                refine (alike_v hP19 hQ19).mono ?_
                rintro e w20 ⟨rfl, hb20⟩
                rw [hLL.out]
                have hR20 := hR19.below hb20
                have hS20 := hS19.below hb20
                have hG20 := hG19.below hb20
                have ha20 := ha19.trans (hb20.mono ha19.size)
                go_wp2_with fail
                refine (alike_v hR20 hS20).mono ?_
                rintro e w21 ⟨rfl, hb21⟩
                rw [hZZ.out]
                have ha21 := ha20.trans (hb21.mono ha20.size)
                go_wp2_with (go_at_call 18; refine (moored_any _ (hG20.below hb21)).mono ?_; rintro e w22 ⟨rfl, hb22⟩)
                go_ret
                exact ⟨rfl, ha21.trans (hb22.mono ha21.size)⟩
theorem LHigher_v {B : Book} {v : Value} {w : World} (hG : GA w) (hB : BookV w v B) (n0 n1 n2 n3 : Int) : Calls Tryd.prog 13 #[v, .agg #[i64 n0, i64 n1, i64 n2, i64 n3]] w (MoorPost w) := by
  obtain ⟨tb, tq, ta, tc, sb, sq, sa, sc, rfl, hT, hS⟩ := hB
  exact LHigher_any B tb tq ta tc sb sq sa sc n0 n1 n2 n3 w hG hT hS
end Go.Proofs.YtkbmpkdflgimmaaDoor
