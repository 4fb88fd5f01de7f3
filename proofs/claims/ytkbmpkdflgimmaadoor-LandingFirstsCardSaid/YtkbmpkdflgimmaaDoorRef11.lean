/- The contract of the reference's lands. (Printed by genref11.py.) -/
import Derived.Test.YtkbmpkdflgimmaaDoorRef10
namespace Go.Proofs.YtkbmpkdflgimmaaDoor
open Go.RowKit Go.Shelf

theorem htsR_rng {B : Book} (hV : Vld B) {hr : Int} (h0 : 0 ≤ hr) (h1 : hr < B.tides.length) {f : Int × Int} {h : Int} (hm : h ∈ hts B hr f) : -40 ≤ h ∧ h ≤ 80 := by
  have hk : hr.toNat < B.tides.length := by omega
  have ht := hV.tides _ (List.getElem_mem hk)
  rw [← tideAt_nat hk, Int.toNat_of_nonneg h0] at ht
  have := (mem_hts.1 hm).1
  omega
theorem flagS {a b c s0 j x : Bool} (h1 : a = (s0 || b)) (h2 : c = (b || j)) (h : (a || j) = x) : x = (s0 || c) := by subst h1 h2 h; cases s0 <;> cases b <;> cases j <;> rfl
theorem flagA {a b c s0 j x : Bool} (h1 : a = (s0 && b)) (h2 : c = (b && j)) (h : (a && j) = x) : x = (s0 && c) := by subst h1 h2 h; cases s0 <;> cases b <;> cases j <;> rfl
theorem flagS2 {a b c d e f : Bool} (h1 : a = (b || c)) (h2 : d = (a || e)) (h3 : f = (c || e)) : d = (b || f) := by subst h1 h2 h3; cases b <;> cases c <;> cases e <;> rfl
theorem flagA2 {a b c d e f : Bool} (h1 : a = (b && c)) (h2 : d = (a && e)) (h3 : f = (c && e)) : d = (b && f) := by subst h1 h2 h3; cases b <;> cases c <;> cases e <;> rfl
structure LaI (w : World) (B : Book) (la : Option Addr) (lc : Nat) (s hr ld : Int) (i : Nat) (S A : Bool) (a : Act) (W0 W : World) : Prop where
  size : a.tmps.size = 93
  defers : a.defers = []
  s1 : slotOf a 1 = .slice la (cansB B).length lc
  s2 : slotOf a 2 = i64 s
  s3 : slotOf a 3 = i64 hr
  s4 : slotOf a 4 = i64 ld
  s5 : slotOf a 5 = .pointer (some ⟨w.heap.size, 0, none⟩)
  s11 : slotOf a 11 = .bool S
  s12 : slotOf a 12 = .bool A
  s13 : slotOf a 13 = .pointer (some ⟨w.heap.size + 1, 0, none⟩)
  s14 : slotOf a 14 = i64 i
  hb : Below W0.heap.size W0 W
structure LaJ (w : World) (B : Book) (la : Option Addr) (lc : Nat) (s hr ld : Int) (i : Nat) (ja : Option Addr) (jn jc k : Nat) (S A : Bool) (a : Act) (W0 W : World) : Prop extends LaI w B la lc s hr ld i S A a W0 W where
  s15 : slotOf a 15 = .slice ja jn jc
  s16 : slotOf a 16 = i64 k
structure LaK (w : World) (B : Book) (la : Option Addr) (lc : Nat) (s hr ld : Int) (i : Nat) (ja : Option Addr) (jn jc k : Nat) (E : Int) (S A : Bool) (a : Act) (W0 W : World) : Prop extends LaJ w B la lc s hr ld i ja jn jc k S A a W0 W where
  s17 : slotOf a 17 = i64 E
def LaIR (w : World) (B : Book) (la : Option Addr) (lc : Nat) (s hr ld : Int) (W0 : World) (a : Act) (W : World) : Prop := ∃ (i : Nat) (S A : Bool), i ≤ (cansB B).length ∧ LaI w B la lc s hr ld i S A a W0 W ∧ S = iS B s hr ld (cansB B) i ∧ A = iA B s hr ld (cansB B) i
def LaJR (w : World) (B : Book) (la : Option Addr) (lc : Nat) (s hr ld : Int) (i : Nat) (ja : Option Addr) (jn jc : Nat) (f : Int) (L : List Int) (S0 A0 : Bool) (W0 : World) (a : Act) (W : World) : Prop := ∃ (k : Nat) (S A : Bool), k ≤ jn ∧ LaJ w B la lc s hr ld i ja jn jc k S A a W0 W ∧ S = (S0 || kS B s ld f L k) ∧ A = (A0 && kA B s ld f L k)
def LaKR (w : World) (B : Book) (la : Option Addr) (lc : Nat) (s hr ld : Int) (i : Nat) (ja : Option Addr) (jn jc k : Nat) (h f : Int) (S0 A0 : Bool) (W0 : World) (a : Act) (W : World) : Prop := ∃ (m : Nat) (S A : Bool), m ≤ (B.eh - B.el + 1).toNat ∧ LaK w B la lc s hr ld i ja jn jc k (B.el + m) S A a W0 W ∧ S = (S0 || eS B s ld h f m) ∧ A = (A0 && eA B s ld h f m)
def laM (n : Nat) (t : Nat) (a : Act) : Nat := n - (intOf (slotOf a t)).toNat
def laE (B : Book) (a : Act) : Nat := (B.eh + 1 - intOf (slotOf a 17)).toNat
theorem laM_lt {n t i : Nat} {a b : Act} (hi : i < n) (ha : slotOf a t = i64 i) (hb : slotOf b t = i64 ((i : Int) + 1)) : laM n t b < laM n t a := by
  unfold laM
  rw [ha, hb]
  show n - ((i : Int) + 1).toNat < n - (i : Int).toNat
  omega
theorem laE_lt {B : Book} {E : Int} {a b : Act} (hi : E ≤ B.eh) (ha : slotOf a 17 = i64 E) (hb : slotOf b 17 = i64 (E + 1)) : laE B b < laE B a := by
  unfold laE
  rw [ha, hb]
  show (B.eh + 1 - (E + 1)).toNat < (B.eh + 1 - E).toNat
  omega
def rdLa6s0 (i : Nat) : List Nat := match i with
  | 0 => [29] | 1 => [30] | 2 => [31] | 3 => [32] | 4 => [33] | 5 => [34] | 6 => [35] | 7 => [15] | _ => []
def pureLa6s0 (i : Nat) : Bool := match i with
  | 6 => false | _ => true
def gLa6s0 (B : Book) (ta : Option Addr) (tc : Nat) (sa : Option Addr) (sc : Nat) (la : Option Addr) (lc lb ix : Nat) (hr p0 p1 : Int) (i : Nat) (vs : List Value) (W : World) : Prop := match i with
  | 0 => vs = [.agg (bookCells B ta tc sa sc)]
  | 1 => vs = [.slice la (cansB B).length lc]
  | 2 => vs = [i64 ix]
  | 3 => vs = [.pointer (some ⟨lb, ix * 2, none⟩)]
  | 4 => vs = [.agg #[i64 p0, i64 p1]]
  | 5 => vs = [i64 hr]
  | 6 => ∃ v, vs = [v] ∧ ListV W v (hts B hr (p0, p1))
  | 7 => ∃ v, vs = [v] ∧ ListV W v (hts B hr (p0, p1))
  | _ => True
def rdLa13s0f (i : Nat) : List Nat := match i with
  | 0 => [52] | 1 => [53] | 2 => [54] | 3 => [55] | 4 => [56] | 5 => [57] | 6 => [58] | 7 => [59] | 8 => [60] | 9 => [61] | 10 => [62] | 11 => [63] | 12 => [64] | 13 => [65] | 14 => [66] | 15 => [67] | 16 => [68] | 17 => [69] | 18 => [70] | 19 => [71] | 20 => [72] | 21 => [73] | 22 => [74] | 23 => [75] | 24 => [76] | 25 => [77] | 26 => [78] | 27 => [79] | 28 => [80] | 29 => [81] | 30 => [82] | 31 => [18] | _ => []
def pureLa13s0f (i : Nat) : Bool := match i with
  | 14 => false | 29 => false | _ => true
def gLa13s0f (w : World) (B : Book) (ta : Option Addr) (tc : Nat) (sa : Option Addr) (sc : Nat) (la : Option Addr) (lc lb ix : Nat) (ld p0 : Int) (ja : Option Addr) (jn jc jb jo k : Nat) (h E Q : Int) (i : Nat) (vs : List Value) (_ : World) : Prop := match i with
  | 0 => vs = [.slice ja jn jc]
  | 1 => vs = [i64 k]
  | 2 => vs = [.pointer (some ⟨jb, jo + k, none⟩)]
  | 3 => vs = [i64 h]
  | 4 => vs = [.slice la (cansB B).length lc]
  | 5 => vs = [i64 ix]
  | 6 => vs = [i64 0]
  | 7 => vs = [.pointer (some ⟨lb, ix * 2, none⟩)]
  | 8 => vs = [.pointer (some ⟨lb, ix * 2, none⟩)]
  | 9 => vs = [i64 p0]
  | 10 => vs = [i64 (h - p0)]
  | 11 => vs = [i64 E]
  | 12 => vs = [.agg (bookCells B ta tc sa sc)]
  | 13 => vs = [i64 ld]
  | 14 => vs = [i64 Q]
  | 15 => vs = [i64 (E + Q)]
  | 16 => vs = [.pointer (some ⟨w.heap.size, 12, none⟩)]
  | 17 => vs = [i64 B.under]
  | 18 => vs = [i64 (E + Q + B.under)]
  | 19 => vs = [.bool false]
  | 20 => vs = [.bool false]
  | 21 => True
  | 22 => True
  | 23 => True
  | 24 => True
  | 25 => True
  | 26 => True
  | 27 => True
  | 28 => True
  | 29 => True
  | 30 => vs = [.bool false]
  | 31 => vs = [.bool false]
  | _ => True
def rdLa13s0t (i : Nat) : List Nat := match i with
  | 0 => [52] | 1 => [53] | 2 => [54] | 3 => [55] | 4 => [56] | 5 => [57] | 6 => [58] | 7 => [59] | 8 => [60] | 9 => [61] | 10 => [62] | 11 => [63] | 12 => [64] | 13 => [65] | 14 => [66] | 15 => [67] | 16 => [68] | 17 => [69] | 18 => [70] | 19 => [71] | 20 => [72] | 21 => [73] | 22 => [74] | 23 => [75] | 24 => [76] | 25 => [77] | 26 => [78] | 27 => [79] | 28 => [80] | 29 => [81] | 30 => [82] | 31 => [18] | _ => []
def pureLa13s0t (i : Nat) : Bool := match i with
  | 14 => false | 29 => false | _ => true
def gLa13s0t (w : World) (B : Book) (ta : Option Addr) (tc : Nat) (sa : Option Addr) (sc : Nat) (la : Option Addr) (lc lb ix : Nat) (ld p0 : Int) (ja : Option Addr) (jn jc jb jo k : Nat) (h E Q : Int) (i : Nat) (vs : List Value) (_ : World) : Prop := match i with
  | 0 => vs = [.slice ja jn jc]
  | 1 => vs = [i64 k]
  | 2 => vs = [.pointer (some ⟨jb, jo + k, none⟩)]
  | 3 => vs = [i64 h]
  | 4 => vs = [.slice la (cansB B).length lc]
  | 5 => vs = [i64 ix]
  | 6 => vs = [i64 0]
  | 7 => vs = [.pointer (some ⟨lb, ix * 2, none⟩)]
  | 8 => vs = [.pointer (some ⟨lb, ix * 2, none⟩)]
  | 9 => vs = [i64 p0]
  | 10 => vs = [i64 (h - p0)]
  | 11 => vs = [i64 E]
  | 12 => vs = [.agg (bookCells B ta tc sa sc)]
  | 13 => vs = [i64 ld]
  | 14 => vs = [i64 Q]
  | 15 => vs = [i64 (E + Q)]
  | 16 => vs = [.pointer (some ⟨w.heap.size, 12, none⟩)]
  | 17 => vs = [i64 B.under]
  | 18 => vs = [i64 (E + Q + B.under)]
  | 19 => vs = [.bool true]
  | 20 => vs = [.bool true]
  | 21 => vs = [.slice ja jn jc]
  | 22 => vs = [i64 k]
  | 23 => vs = [.pointer (some ⟨jb, jo + k, none⟩)]
  | 24 => vs = [i64 h]
  | 25 => vs = [.pointer (some ⟨w.heap.size + 1, 2, none⟩)]
  | 26 => vs = [i64 B.s0.lo]
  | 27 => vs = [.pointer (some ⟨w.heap.size + 1, 3, none⟩)]
  | 28 => vs = [i64 B.s0.hi]
  | 29 => vs = [.bool (inB h B.s0.lo B.s0.hi)]
  | 30 => vs = [.bool (inB h B.s0.lo B.s0.hi)]
  | 31 => vs = [.bool (inB h B.s0.lo B.s0.hi)]
  | _ => True
def rdLa6s1 (i : Nat) : List Nat := match i with
  | 0 => [29] | 1 => [30] | 2 => [31] | 3 => [32] | 4 => [33] | 5 => [34] | 6 => [35] | 7 => [15] | _ => []
def pureLa6s1 (i : Nat) : Bool := match i with
  | 6 => false | _ => true
def gLa6s1 (B : Book) (ta : Option Addr) (tc : Nat) (sa : Option Addr) (sc : Nat) (la : Option Addr) (lc lb ix : Nat) (hr p0 p1 : Int) (i : Nat) (vs : List Value) (W : World) : Prop := match i with
  | 0 => vs = [.agg (bookCells B ta tc sa sc)]
  | 1 => vs = [.slice la (cansB B).length lc]
  | 2 => vs = [i64 ix]
  | 3 => vs = [.pointer (some ⟨lb, ix * 2, none⟩)]
  | 4 => vs = [.agg #[i64 p0, i64 p1]]
  | 5 => vs = [i64 hr]
  | 6 => ∃ v, vs = [v] ∧ ListV W v (hts B hr (p0, p1))
  | 7 => ∃ v, vs = [v] ∧ ListV W v (hts B hr (p0, p1))
  | _ => True
def rdLa13s1f (i : Nat) : List Nat := match i with
  | 0 => [52] | 1 => [53] | 2 => [54] | 3 => [55] | 4 => [56] | 5 => [57] | 6 => [58] | 7 => [59] | 8 => [60] | 9 => [61] | 10 => [62] | 11 => [63] | 12 => [64] | 13 => [65] | 14 => [66] | 15 => [67] | 16 => [68] | 17 => [69] | 18 => [70] | 19 => [71] | 20 => [72] | 21 => [73] | 22 => [74] | 23 => [75] | 24 => [76] | 25 => [77] | 26 => [78] | 27 => [79] | 28 => [80] | 29 => [81] | 30 => [82] | 31 => [18] | _ => []
def pureLa13s1f (i : Nat) : Bool := match i with
  | 14 => false | 29 => false | _ => true
def gLa13s1f (w : World) (B : Book) (ta : Option Addr) (tc : Nat) (sa : Option Addr) (sc : Nat) (la : Option Addr) (lc lb ix : Nat) (ld p1 : Int) (ja : Option Addr) (jn jc jb jo k : Nat) (h E Q : Int) (i : Nat) (vs : List Value) (_ : World) : Prop := match i with
  | 0 => vs = [.slice ja jn jc]
  | 1 => vs = [i64 k]
  | 2 => vs = [.pointer (some ⟨jb, jo + k, none⟩)]
  | 3 => vs = [i64 h]
  | 4 => vs = [.slice la (cansB B).length lc]
  | 5 => vs = [i64 ix]
  | 6 => vs = [i64 1]
  | 7 => vs = [.pointer (some ⟨lb, ix * 2, none⟩)]
  | 8 => vs = [.pointer (some ⟨lb, ix * 2 + 1, none⟩)]
  | 9 => vs = [i64 p1]
  | 10 => vs = [i64 (h - p1)]
  | 11 => vs = [i64 E]
  | 12 => vs = [.agg (bookCells B ta tc sa sc)]
  | 13 => vs = [i64 ld]
  | 14 => vs = [i64 Q]
  | 15 => vs = [i64 (E + Q)]
  | 16 => vs = [.pointer (some ⟨w.heap.size, 12, none⟩)]
  | 17 => vs = [i64 B.under]
  | 18 => vs = [i64 (E + Q + B.under)]
  | 19 => vs = [.bool false]
  | 20 => vs = [.bool false]
  | 21 => True
  | 22 => True
  | 23 => True
  | 24 => True
  | 25 => True
  | 26 => True
  | 27 => True
  | 28 => True
  | 29 => True
  | 30 => vs = [.bool false]
  | 31 => vs = [.bool false]
  | _ => True
def rdLa13s1t (i : Nat) : List Nat := match i with
  | 0 => [52] | 1 => [53] | 2 => [54] | 3 => [55] | 4 => [56] | 5 => [57] | 6 => [58] | 7 => [59] | 8 => [60] | 9 => [61] | 10 => [62] | 11 => [63] | 12 => [64] | 13 => [65] | 14 => [66] | 15 => [67] | 16 => [68] | 17 => [69] | 18 => [70] | 19 => [71] | 20 => [72] | 21 => [73] | 22 => [74] | 23 => [75] | 24 => [76] | 25 => [77] | 26 => [78] | 27 => [79] | 28 => [80] | 29 => [81] | 30 => [82] | 31 => [18] | _ => []
def pureLa13s1t (i : Nat) : Bool := match i with
  | 14 => false | 29 => false | _ => true
def gLa13s1t (w : World) (B : Book) (ta : Option Addr) (tc : Nat) (sa : Option Addr) (sc : Nat) (la : Option Addr) (lc lb ix : Nat) (ld p1 : Int) (ja : Option Addr) (jn jc jb jo k : Nat) (h E Q : Int) (i : Nat) (vs : List Value) (_ : World) : Prop := match i with
  | 0 => vs = [.slice ja jn jc]
  | 1 => vs = [i64 k]
  | 2 => vs = [.pointer (some ⟨jb, jo + k, none⟩)]
  | 3 => vs = [i64 h]
  | 4 => vs = [.slice la (cansB B).length lc]
  | 5 => vs = [i64 ix]
  | 6 => vs = [i64 1]
  | 7 => vs = [.pointer (some ⟨lb, ix * 2, none⟩)]
  | 8 => vs = [.pointer (some ⟨lb, ix * 2 + 1, none⟩)]
  | 9 => vs = [i64 p1]
  | 10 => vs = [i64 (h - p1)]
  | 11 => vs = [i64 E]
  | 12 => vs = [.agg (bookCells B ta tc sa sc)]
  | 13 => vs = [i64 ld]
  | 14 => vs = [i64 Q]
  | 15 => vs = [i64 (E + Q)]
  | 16 => vs = [.pointer (some ⟨w.heap.size, 12, none⟩)]
  | 17 => vs = [i64 B.under]
  | 18 => vs = [i64 (E + Q + B.under)]
  | 19 => vs = [.bool true]
  | 20 => vs = [.bool true]
  | 21 => vs = [.slice ja jn jc]
  | 22 => vs = [i64 k]
  | 23 => vs = [.pointer (some ⟨jb, jo + k, none⟩)]
  | 24 => vs = [i64 h]
  | 25 => vs = [.pointer (some ⟨w.heap.size + 1, 2, none⟩)]
  | 26 => vs = [i64 B.s1.lo]
  | 27 => vs = [.pointer (some ⟨w.heap.size + 1, 3, none⟩)]
  | 28 => vs = [i64 B.s1.hi]
  | 29 => vs = [.bool (inB h B.s1.lo B.s1.hi)]
  | 30 => vs = [.bool (inB h B.s1.lo B.s1.hi)]
  | 31 => vs = [.bool (inB h B.s1.lo B.s1.hi)]
  | _ => True
set_option maxRecDepth 100000 in
set_option maxHeartbeats 16000000 in
theorem landsRef0_any (B : Book) (ta : Option Addr) (tc : Nat) (sa : Option Addr) (sc : Nat) (lb : Nat) (la : Option Addr) (lc : Nat) (hr ld : Int) (w : World) (hB : BookV w (bookVal B ta tc sa sc) B) (hC : CansAt w.heap.size w lb 0 la (cansB B)) (hV : Vld B) (hcc : ∃ f, CC B [] f) (h0 : 0 ≤ hr) (h1 : hr < B.tides.length) (l0 : 0 ≤ ld) (l1 : ld ≤ 1000) :
    Calls Tryd.prog 92 #[bookVal B ta tc sa sc, .slice la (cansB B).length lc, i64 0, i64 hr, i64 ld] w (fun e w' => e = .returned (i64 (kindB B 0 hr ld)) ∧ Below w.heap.size w w') := by
  have hbs := heap_alloc_new w (.cells (bookCells B ta tc sa sc) 30)
  have hxc := cells_of hbs
  have hxl := (Array.getElem?_eq_some_iff.1 hbs).1
  have hb0 : Below w.heap.size w ((w.alloc (.cells (bookCells B ta tc sa sc) 30)).alloc (.cells #[i64 B.s0.fl, i64 B.s0.fh, i64 B.s0.lo, i64 B.s0.hi] 26)) := ((Below.refl _ w).alloc (Nat.le_refl _) _).alloc (by simp) _
  have hx0 : ((w.alloc (.cells (bookCells B ta tc sa sc) 30)).alloc (.cells #[i64 B.s0.fl, i64 B.s0.fh, i64 B.s0.lo, i64 B.s0.hi] 26)).heap[w.heap.size]? = some (.cells (bookCells B ta tc sa sc) 30 (0, 0)) := (Below.heap_alloc _ _ _ (by simp)).trans (heap_alloc_new w _)
  have hg0 : ((w.alloc (.cells (bookCells B ta tc sa sc) 30)).alloc (.cells #[i64 B.s0.fl, i64 B.s0.fh, i64 B.s0.lo, i64 B.s0.hi] 26)).heap[w.heap.size + 1]? = some (.cells #[i64 B.s0.fl, i64 B.s0.fh, i64 B.s0.lo, i64 B.s0.hi] 26 (0, 0)) := heap_alloc2_new w _ _
  have hB0 := hB.below hb0
  have hC0 := (hC.same (Same.of_below hb0)).up hb0.size
  have hk1 := hV.k1
  have hk2 : B.sink ≤ 100 := by have := hV.k20; omega
  have he0 := hV.e0
  have hee := hV.ee
  have he40 := hV.e40
  have hu0 := hV.u0
  have hu10 := hV.u10
  have hQr := inchR_range (B := B) (ld := ld) hk1 hk2 l0 l1
  obtain ⟨Q, hQ⟩ : ∃ Q, Hid (inchR B ld = Q) := ⟨_, Lib.hid rfl⟩
  rw [hQ.out] at hQr
  have hSall := Lib.hid (iS_all B 0 hr ld)
  have hAall := Lib.hid (iA_all B 0 hr ld)
  have hl25 := cans25 hV
  go_enter Tryd.func92, Tryd.ntmps92
  go_wp2_with fail
  clear hbs hxc hxl
  obtain ⟨W0, hW0⟩ : ∃ W0, ((w.alloc (.cells (bookCells B ta tc sa sc) 30)).alloc (.cells #[i64 B.s0.fl, i64 B.s0.fh, i64 B.s0.lo, i64 B.s0.hi] 26)) = W0 := ⟨_, rfl⟩
  rw [hW0] at hb0 hx0 hg0 hB0 hC0 ⊢
  clear hW0
  refine wp_loop (LaIR w B la lc 0 hr ld W0) (fun act _ => laM (cansB B).length 14 act) ?_ ?_
  · exact ⟨0, _, _, Nat.zero_le _, ⟨rfl, rfl, rfl, rfl, rfl, rfl, rfl, rfl, rfl, rfl, rfl, Below.refl _ _⟩, rfl, rfl⟩
  · rintro act W3 ⟨ix, S, A, hix, ⟨hsz, hdf, s1, s2, s3, s4, s5, s11, s12, s13, s14, hb3⟩, hS, hA⟩
    rw [act_eta act 93 hsz hdf]
    simp only [show List.range 93 = [0, 1, 2, 3, 4, 5, 6, 7, 8, 9, 10, 11, 12, 13, 14, 15, 16, 17, 18, 19, 20, 21, 22, 23, 24, 25, 26, 27, 28, 29, 30, 31, 32, 33, 34, 35, 36, 37, 38, 39, 40, 41, 42, 43, 44, 45, 46, 47, 48, 49, 50, 51, 52, 53, 54, 55, 56, 57, 58, 59, 60, 61, 62, 63, 64, 65, 66, 67, 68, 69, 70, 71, 72, 73, 74, 75, 76, 77, 78, 79, 80, 81, 82, 83, 84, 85, 86, 87, 88, 89, 90, 91, 92] from rfl, List.map_cons, List.map_nil, s1, s2, s3, s4, s5, s11, s12, s13, s14]
    replace hS := Lib.hid hS
    replace hA := Lib.hid hA
    clear s1 s2 s3 s4 s5 s11 s12 s13 s14
    by_cases hlt : ix < (cansB B).length
    · have hlt' : (ix : Int) < ((cansB B).length : Int) := by omega
      have hx3 := (hb3.block _ (Array.getElem?_eq_some_iff.1 hx0).1).trans hx0
      have hxl3 := (Array.getElem?_eq_some_iff.1 hx3).1
      have hg3 := (hb3.block _ (Array.getElem?_eq_some_iff.1 hg0).1).trans hg0
      have hC3 := (hC0.same (Same.of_below hb3)).up hb3.size
      have hB3 := hB0.below hb3
      have hi111 : ∀ W, (Instr.indexAt 111 (.slice la (cansB B).length lc) (.int .i64 (ix : Int))).run Tryd.prog W = .ok (.pointer (some ⟨lb, ix * 2, none⟩)) W := fun W => by simpa using idx111 W (hC3.at_ (ne_nil_of_lt hlt)) hlt
      obtain ⟨p0, p1, hfe⟩ : ∃ p0 p1, Hid ((cansB B)[ix] = (p0, p1)) := ⟨_, _, Lib.hid rfl⟩
      have hmem : CC B [] (p0, p1) := mem_cansB.1 (hfe.out ▸ List.getElem_mem hlt)
      have hf0 : -1000 ≤ p0 ∧ p0 ≤ 1000 := by have := hmem.1; have a := hV.sh0.fl; have b := hV.sh0.fh; omega
      have hf1 : -1000 ≤ p1 ∧ p1 ≤ 1000 := by have := hmem.2.1; have a := hV.sh1.fl; have b := hV.sh1.fh; omega
      have hiSs := iS_succ B 0 hr ld (cansB B) ix hlt
      have hiAs := iA_succ B 0 hr ld (cansB B) ix hlt
      rw [hfe.out] at hiSs hiAs
      replace hiSs := Lib.hid hiSs
      replace hiAs := Lib.hid hiAs
      clear hmem
      go_wp2_with fail
      refine rg_region rdLa6s0 pureLa6s0 (gLa6s0 B ta tc sa sc la lc lb ix hr p0 p1) BR (by kernel_rfl) (by kernel_rfl) (fun n => BR.drawn _ n) BR.refl (fun _ _ _ => BR.trans) ?_ ?_ ?_
      · intro i hi vs wA wB hG hR
        match i, hi, hG with
        | 0, _, hG => exact hG
        | 1, _, hG => exact hG
        | 2, _, hG => exact hG
        | 3, _, hG => exact hG
        | 4, _, hG => exact hG
        | 5, _, hG => exact hG
        | 6, _, hG => obtain ⟨v, h1, h2⟩ := hG; exact ⟨v, h1, h2.below hR⟩
        | 7, _, hG => obtain ⟨v, h1, h2⟩ := hG; exact ⟨v, h1, h2.below hR⟩
        | _ + 8, _, _ => trivial
      · intro i op ho act wA hR hF hD
        have sz : act.tmps.size = 93 := hF.size
        match i, ho, hD with
        | 0, ho, hD =>
          cases ho
          have e5 := slot_tmps (show slotOf act 5 = .pointer (some ⟨w.heap.size, 0, none⟩) from hF.slot 5 (by kernel_rfl))
          refine rgw_val (wanted_none rfl) (.agg (bookCells B ta tc sa sc)) (by exact ex_load_row (a := act) 30 (.tmp 5) rfl w.heap.size (show slotOf act 5 = .pointer (some ⟨w.heap.size, 0, none⟩) from hF.slot 5 (by kernel_rfl)) 30 _ (0, 0) _ ((Below.block hR _ hxl3).trans hx3) Tryd.underlying30 rfl (by rw [size30]; rfl)) (BR.refl _) ?_
          exact congrArg (fun v => [v]) (slotOf_same act 29 _ (by omega))
        | 1, ho, hD =>
          cases ho
          have e1 := slot_tmps (show slotOf act 1 = .slice la (cansB B).length lc from hF.slot 1 (by kernel_rfl))
          refine rgw_val (wanted_none rfl) (.slice la (cansB B).length lc) (by simp [go_sem, e1]) (BR.refl _) ?_
          exact congrArg (fun v => [v]) (slotOf_same act 30 _ (by omega))
        | 2, ho, hD =>
          cases ho
          have e14 := slot_tmps (show slotOf act 14 = i64 ix from hF.slot 14 (by kernel_rfl))
          refine rgw_val (wanted_none rfl) (i64 ix) (by simp [go_sem, e14]) (BR.refl _) ?_
          exact congrArg (fun v => [v]) (slotOf_same act 31 _ (by omega))
        | 3, ho, hD =>
          cases ho
          have e30 := slot_tmps (List.cons.inj (hD 1 (by decide))).1
          have e31 := slot_tmps (List.cons.inj (hD 2 (by decide))).1
          refine rgw_val (wanted_none rfl) (.pointer (some ⟨lb, ix * 2, none⟩)) (by simp [go_sem, e30, e31, hi111]) (BR.refl _) ?_
          exact congrArg (fun v => [v]) (slotOf_same act 32 _ (by omega))
        | 4, ho, hD =>
          cases ho
          have e32 := slot_tmps (List.cons.inj (hD 3 (by decide))).1
          have hCA := hC3.same (Same.of_below hR)
          have c1 := hCA.fst ix hlt
          have c2 := hCA.snd ix hlt
          rw [Nat.zero_add] at c1 c2
          rw [hfe.out] at c1 c2
          refine rgw_val (wanted_none rfl) (.agg #[i64 p0, i64 p1]) (by simp [go_sem, e32, c1, c2]) (BR.refl _) ?_
          exact congrArg (fun v => [v]) (slotOf_same act 33 _ (by omega))
        | 5, ho, hD =>
          cases ho
          have e3 := slot_tmps (show slotOf act 3 = i64 hr from hF.slot 3 (by kernel_rfl))
          refine rgw_val (wanted_none rfl) (i64 hr) (by simp [go_sem, e3]) (BR.refl _) ?_
          exact congrArg (fun v => [v]) (slotOf_same act 34 _ (by omega))
        | 6, ho, hD =>
          cases ho
          have e29 := slot_tmps (List.cons.inj (hD 0 (by decide))).1
          have e33 := slot_tmps (List.cons.inj (hD 4 (by decide))).1
          have e34 := slot_tmps (List.cons.inj (hD 5 (by decide))).1
          refine rgw_call (wanted_none rfl) 89 #[bookVal B ta tc sa sc, .agg #[i64 p0, i64 p1], i64 hr] (by simp [go_sem, e29, e33, e34]) rfl ?_
          refine (heightsR_v (hB3.below hR) hV h0 h1 hf0 hf1).mono ?_
          rintro e wB ⟨v, rfl, hb, hL⟩
          exact ⟨_, rfl, hb, v, congrArg (fun v => [v]) (slotOf_same act 35 _ (by omega)), hL⟩
        | 7, ho, hD =>
          cases ho
          obtain ⟨v, dv, hL⟩ := hD 6 (by decide)
          have ev := slot_tmps (List.cons.inj dv).1
          refine rgw_val (wanted_none rfl) v (by simp [go_sem, ev]) (BR.refl _) ?_
          exact ⟨v, congrArg (fun v => [v]) (slotOf_same act 15 _ (by omega)), hL⟩
        | _ + 8, ho, _ => cases ho
      · intro act wA hR hF hA
        have f1 : slotOf act 1 = .slice la (cansB B).length lc := hF.slot 1 (by kernel_rfl)
        have f2 : slotOf act 2 = i64 0 := hF.slot 2 (by kernel_rfl)
        have f3 : slotOf act 3 = i64 hr := hF.slot 3 (by kernel_rfl)
        have f4 : slotOf act 4 = i64 ld := hF.slot 4 (by kernel_rfl)
        have f5 : slotOf act 5 = .pointer (some ⟨w.heap.size, 0, none⟩) := hF.slot 5 (by kernel_rfl)
        have f11 : slotOf act 11 = .bool S := hF.slot 11 (by kernel_rfl)
        have f12 : slotOf act 12 = .bool A := hF.slot 12 (by kernel_rfl)
        have f13 : slotOf act 13 = .pointer (some ⟨w.heap.size + 1, 0, none⟩) := hF.slot 13 (by kernel_rfl)
        have f14 : slotOf act 14 = i64 ix := hF.slot 14 (by kernel_rfl)
        obtain ⟨hv, d15, hLv⟩ := hA 7 (by decide)
        obtain ⟨jb, jo, ja, jc, rfl, hjn, hJ⟩ := hLv
        have f15 : slotOf act 15 = .slice ja (hts B hr (p0, p1)).length jc := (List.cons.inj d15).1
        have f29 : slotOf act 29 = .agg (bookCells B ta tc sa sc) := (List.cons.inj (hA 0 (by decide))).1
        have f30 : slotOf act 30 = .slice la (cansB B).length lc := (List.cons.inj (hA 1 (by decide))).1
        have f31 : slotOf act 31 = i64 ix := (List.cons.inj (hA 2 (by decide))).1
        have f32 : slotOf act 32 = .pointer (some ⟨lb, ix * 2, none⟩) := (List.cons.inj (hA 3 (by decide))).1
        have f33 : slotOf act 33 = .agg #[i64 p0, i64 p1] := (List.cons.inj (hA 4 (by decide))).1
        have f34 : slotOf act 34 = i64 hr := (List.cons.inj (hA 5 (by decide))).1
        rw [act_eta act 93 hF.size hF.defers]
        simp only [show List.range 93 = [0, 1, 2, 3, 4, 5, 6, 7, 8, 9, 10, 11, 12, 13, 14, 15, 16, 17, 18, 19, 20, 21, 22, 23, 24, 25, 26, 27, 28, 29, 30, 31, 32, 33, 34, 35, 36, 37, 38, 39, 40, 41, 42, 43, 44, 45, 46, 47, 48, 49, 50, 51, 52, 53, 54, 55, 56, 57, 58, 59, 60, 61, 62, 63, 64, 65, 66, 67, 68, 69, 70, 71, 72, 73, 74, 75, 76, 77, 78, 79, 80, 81, 82, 83, 84, 85, 86, 87, 88, 89, 90, 91, 92] from rfl, List.map_cons, List.map_nil, f1, f2, f3, f4, f5, f11, f12, f13, f14, f15, f29, f30, f31, f32, f33, f34]
        clear hA hF f1 f2 f3 f4 f5 f11 f12 f13 f14 f15 f29 f30 f31 f32 f33 f34
        have hL25 := htsR_len hV h0 h1 (p0, p1)
        have hmh := fun (h : Int) (hm : h ∈ hts B hr (p0, p1)) => htsR_rng hV h0 h1 hm
        obtain ⟨L, hLe⟩ : ∃ L, Hid (hts B hr (p0, p1) = L) := ⟨_, Lib.hid rfl⟩
        rw [hLe.out] at hJ hjn hL25 hmh hiSs hiAs ⊢
        have hb5 := hb3.trans (Below.mono hR hb3.size)
        have hx5 := (Below.block hR _ hxl3).trans hx3
        have hg5 := (Below.block hR _ (Array.getElem?_eq_some_iff.1 hg3).1).trans hg3
        have hC5 := (hC3.same (Same.of_below hR)).up (Below.size hR)
        have hB5 := hB3.below hR
        clear hR hx3 hxl3 hg3 hC3 hB3 hb3
        obtain ⟨W5, hW5⟩ : ∃ W5, wA = W5 := ⟨_, rfl⟩
        rw [hW5] at hJ hb5 hx5 hg5 hC5 hB5 ⊢
        clear hW5
        go_wp2_with fail
        refine wp_loop (LaJR w B la lc 0 hr ld ix ja L.length jc p0 L S A W5) (fun act _ => laM L.length 16 act) ?_ ?_
        · exact ⟨0, _, _, Nat.zero_le _, ⟨⟨rfl, rfl, rfl, rfl, rfl, rfl, rfl, rfl, rfl, rfl, rfl, Below.refl _ _⟩, rfl, rfl⟩, (Bool.or_false _).symm, (Bool.and_true _).symm⟩
        · rintro act W6 ⟨k, S1, A1, hk, ⟨⟨hsz, hdf, s1, s2, s3, s4, s5, s11, s12, s13, s14, hb6⟩, s15, s16⟩, hS1, hA1⟩
          rw [act_eta act 93 hsz hdf]
          simp only [show List.range 93 = [0, 1, 2, 3, 4, 5, 6, 7, 8, 9, 10, 11, 12, 13, 14, 15, 16, 17, 18, 19, 20, 21, 22, 23, 24, 25, 26, 27, 28, 29, 30, 31, 32, 33, 34, 35, 36, 37, 38, 39, 40, 41, 42, 43, 44, 45, 46, 47, 48, 49, 50, 51, 52, 53, 54, 55, 56, 57, 58, 59, 60, 61, 62, 63, 64, 65, 66, 67, 68, 69, 70, 71, 72, 73, 74, 75, 76, 77, 78, 79, 80, 81, 82, 83, 84, 85, 86, 87, 88, 89, 90, 91, 92] from rfl, List.map_cons, List.map_nil, s1, s2, s3, s4, s5, s11, s12, s13, s14, s15, s16]
          replace hS1 := Lib.hid hS1
          replace hA1 := Lib.hid hA1
          clear s1 s2 s3 s4 s5 s11 s12 s13 s14 s15 s16
          by_cases hkl : k < L.length
          · have hkl' : (k : Int) < (L.length : Int) := by omega
            have hx6 := (hb6.block _ (Array.getElem?_eq_some_iff.1 hx5).1).trans hx5
            have hxc := cells_of hx6
            have hxl := (Array.getElem?_eq_some_iff.1 hx6).1
            have hi40 := fun W => idx40 (n := L.length) (c := jc) (k := k) W (hJ.at_ (ne_nil_of_lt hkl)) hkl
            obtain ⟨h, hhe⟩ : ∃ h, Hid (L[k] = h) := ⟨_, Lib.hid rfl⟩
            have hhr := hmh h (hhe.out ▸ List.getElem_mem hkl)
            have hkSs := kS_succ B 0 ld p0 L k hkl
            have hkAs := kA_succ B 0 ld p0 L k hkl
            rw [hhe.out, ← eS_all hV] at hkSs
            rw [hhe.out, ← eA_all hV] at hkAs
            replace hkSs := Lib.hid hkSs
            replace hkAs := Lib.hid hkAs
            go_wp2_with fail
            refine wp_loop (LaKR w B la lc 0 hr ld ix ja L.length jc k h p0 S1 A1 W5) (fun act _ => laE B act) ?_ ?_
            · exact ⟨0, _, _, Nat.zero_le _, ⟨⟨⟨rfl, rfl, rfl, rfl, rfl, rfl, rfl, rfl, rfl, rfl, rfl, hb6⟩, rfl, rfl⟩, congrArg (Value.int .i64) (show B.el = B.el + ((0 : Nat) : Int) by omega)⟩, (Bool.or_false _).symm, (Bool.and_true _).symm⟩
            · clear hx6 hxc hxl hb6
              rintro act W9 ⟨m, S, A, hm, ⟨⟨⟨hsz, hdf, s1, s2, s3, s4, s5, s11, s12, s13, s14, hb9⟩, s15, s16⟩, s17⟩, hS, hA⟩
              rw [act_eta act 93 hsz hdf]
              simp only [show List.range 93 = [0, 1, 2, 3, 4, 5, 6, 7, 8, 9, 10, 11, 12, 13, 14, 15, 16, 17, 18, 19, 20, 21, 22, 23, 24, 25, 26, 27, 28, 29, 30, 31, 32, 33, 34, 35, 36, 37, 38, 39, 40, 41, 42, 43, 44, 45, 46, 47, 48, 49, 50, 51, 52, 53, 54, 55, 56, 57, 58, 59, 60, 61, 62, 63, 64, 65, 66, 67, 68, 69, 70, 71, 72, 73, 74, 75, 76, 77, 78, 79, 80, 81, 82, 83, 84, 85, 86, 87, 88, 89, 90, 91, 92] from rfl, List.map_cons, List.map_nil, s1, s2, s3, s4, s5, s11, s12, s13, s14, s15, s16, s17]
              replace hS := Lib.hid hS
              replace hA := Lib.hid hA
              clear s1 s2 s3 s4 s5 s11 s12 s13 s14 s15 s16 s17
              have hx9 := (hb9.block _ (Array.getElem?_eq_some_iff.1 hx5).1).trans hx5
              have hxl9 := (Array.getElem?_eq_some_iff.1 hx9).1
              have hxc := cells_of hx9
              obtain ⟨E, hE⟩ : ∃ E, Hid (B.el + (m : Int) = E) := ⟨_, Lib.hid rfl⟩
              have hEm := hE.out
              rw [hEm]
              replace hEm := Lib.hid hEm
              by_cases hml : m < (B.eh - B.el + 1).toNat
              · have hEle : E ≤ B.eh := by have := hE.out; omega
                have hE0 : 0 ≤ E := by have := hE.out; omega
                have hEle' : decide (E ≤ B.eh) = true := decide_eq_true hEle
                have hg9 := (hb9.block _ (Array.getElem?_eq_some_iff.1 hg5).1).trans hg5
                have hgl9 := (Array.getElem?_eq_some_iff.1 hg9).1
                have hC9 := (hC5.same (Same.of_below hb9)).up hb9.size
                have hJ9 := hJ.same (Same.of_below hb9)
                have hw1 : IntKind.i64.wrap (h - p0) = h - p0 := wrap_fit (by omega) (by omega)
                have hw2 : IntKind.i64.wrap (E + Q) = E + Q := wrap_fit (by omega) (by omega)
                have hw3 : IntKind.i64.wrap (E + Q + B.under) = E + Q + B.under := wrap_fit (by omega) (by omega)
                have hw4 : IntKind.i64.wrap (E + 1) = E + 1 := wrap_fit (by omega) (by omega)
                have hf : decide (h - p0 ≥ E + Q + B.under) = false → Hid (landsB B 0 ld h p0 (B.el + (m : Int)) = false) := fun hd => Lib.hid (by
                  have h3 : decide (h - p0 ≥ B.el + (m : Int) + (ld + B.sink - 1) / B.sink + B.under) = false := by
                    have h4 : (ld + B.sink - 1) / B.sink = Q := hQ.out
                    rw [h4, hE.out]
                    exact hd
                  unfold landsB
                  rw [h3]
                  rfl)
                have ht : decide (h - p0 ≥ E + Q + B.under) = true → Hid (landsB B 0 ld h p0 (B.el + (m : Int)) = inB h B.s0.lo B.s0.hi) := fun hd => Lib.hid (by
                  have h3 : decide (h - p0 ≥ B.el + (m : Int) + (ld + B.sink - 1) / B.sink + B.under) = true := by
                    have h4 : (ld + B.sink - 1) / B.sink = Q := hQ.out
                    rw [h4, hE.out]
                    exact hd
                  unfold landsB
                  rw [h3]
                  rfl)
                cases hc : decide (h - p0 ≥ E + Q + B.under)
                · go_wp2_with fail
                  refine rg_region rdLa13s0f pureLa13s0f (gLa13s0f w B ta tc sa sc la lc lb ix ld p0 ja L.length jc jb jo k h E Q) BR (by kernel_rfl) (by kernel_rfl) (fun n => BR.drawn _ n) BR.refl (fun _ _ _ => BR.trans) ?_ ?_ ?_
                  · intro i hi vs wA wB hG hR
                    match i, hi, hG with
                    | 0, _, hG => exact hG
                    | 1, _, hG => exact hG
                    | 2, _, hG => exact hG
                    | 3, _, hG => exact hG
                    | 4, _, hG => exact hG
                    | 5, _, hG => exact hG
                    | 6, _, hG => exact hG
                    | 7, _, hG => exact hG
                    | 8, _, hG => exact hG
                    | 9, _, hG => exact hG
                    | 10, _, hG => exact hG
                    | 11, _, hG => exact hG
                    | 12, _, hG => exact hG
                    | 13, _, hG => exact hG
                    | 14, _, hG => exact hG
                    | 15, _, hG => exact hG
                    | 16, _, hG => exact hG
                    | 17, _, hG => exact hG
                    | 18, _, hG => exact hG
                    | 19, _, hG => exact hG
                    | 20, _, hG => exact hG
                    | 21, _, _ => trivial
                    | 22, _, _ => trivial
                    | 23, _, _ => trivial
                    | 24, _, _ => trivial
                    | 25, _, _ => trivial
                    | 26, _, _ => trivial
                    | 27, _, _ => trivial
                    | 28, _, _ => trivial
                    | 29, _, _ => trivial
                    | 30, _, hG => exact hG
                    | 31, _, hG => exact hG
                    | _ + 32, _, _ => trivial
                  · intro i op ho act wA hR hF hD
                    have sz : act.tmps.size = 93 := hF.size
                    match i, ho, hD with
                    | 0, ho, hD =>
                      cases ho
                      have e15 := slot_tmps (show slotOf act 15 = .slice ja L.length jc from hF.slot 15 (by kernel_rfl))
                      refine rgw_val (wanted_none rfl) (.slice ja L.length jc) (by simp [go_sem, e15]) (BR.refl _) ?_
                      exact congrArg (fun v => [v]) (slotOf_same act 52 _ (by omega))
                    | 1, ho, hD =>
                      cases ho
                      have e16 := slot_tmps (show slotOf act 16 = i64 k from hF.slot 16 (by kernel_rfl))
                      refine rgw_val (wanted_none rfl) (i64 k) (by simp [go_sem, e16]) (BR.refl _) ?_
                      exact congrArg (fun v => [v]) (slotOf_same act 53 _ (by omega))
                    | 2, ho, hD =>
                      cases ho
                      have e52 := slot_tmps (List.cons.inj (hD 0 (by decide))).1
                      have e53 := slot_tmps (List.cons.inj (hD 1 (by decide))).1
                      refine rgw_val (wanted_none rfl) (.pointer (some ⟨jb, jo + k, none⟩)) (by simp [go_sem, e52, e53, hi40]) (BR.refl _) ?_
                      exact congrArg (fun v => [v]) (slotOf_same act 54 _ (by omega))
                    | 3, ho, hD =>
                      cases ho
                      have e54 := slot_tmps (List.cons.inj (hD 2 (by decide))).1
                      have hJA := hJ9.same (Same.of_below (Below.mono hR hb9.size))
                      have hjc := hJA.cell k hkl
                      rw [hhe.out] at hjc
                      refine rgw_val (wanted_none rfl) (i64 h) (by simp [go_sem, e54, hjc]) (BR.refl _) ?_
                      exact congrArg (fun v => [v]) (slotOf_same act 55 _ (by omega))
                    | 4, ho, hD =>
                      cases ho
                      have e1 := slot_tmps (show slotOf act 1 = .slice la (cansB B).length lc from hF.slot 1 (by kernel_rfl))
                      refine rgw_val (wanted_none rfl) (.slice la (cansB B).length lc) (by simp [go_sem, e1]) (BR.refl _) ?_
                      exact congrArg (fun v => [v]) (slotOf_same act 56 _ (by omega))
                    | 5, ho, hD =>
                      cases ho
                      have e14 := slot_tmps (show slotOf act 14 = i64 ix from hF.slot 14 (by kernel_rfl))
                      refine rgw_val (wanted_none rfl) (i64 ix) (by simp [go_sem, e14]) (BR.refl _) ?_
                      exact congrArg (fun v => [v]) (slotOf_same act 57 _ (by omega))
                    | 6, ho, hD =>
                      cases ho
                      have e2 := slot_tmps (show slotOf act 2 = i64 0 from hF.slot 2 (by kernel_rfl))
                      refine rgw_val (wanted_none rfl) (i64 0) (by simp [go_sem, e2]) (BR.refl _) ?_
                      exact congrArg (fun v => [v]) (slotOf_same act 58 _ (by omega))
                    | 7, ho, hD =>
                      cases ho
                      have e56 := slot_tmps (List.cons.inj (hD 4 (by decide))).1
                      have e57 := slot_tmps (List.cons.inj (hD 5 (by decide))).1
                      refine rgw_val (wanted_none rfl) (.pointer (some ⟨lb, ix * 2, none⟩)) (by simp [go_sem, e56, e57, hi111]) (BR.refl _) ?_
                      exact congrArg (fun v => [v]) (slotOf_same act 59 _ (by omega))
                    | 8, ho, hD =>
                      cases ho
                      have e58 := slot_tmps (List.cons.inj (hD 6 (by decide))).1
                      have e59 := slot_tmps (List.cons.inj (hD 7 (by decide))).1
                      refine rgw_val (wanted_none rfl) (.pointer (some ⟨lb, ix * 2, none⟩)) (by simp [go_sem, e58, e59]) (BR.refl _) ?_
                      exact congrArg (fun v => [v]) (slotOf_same act 60 _ (by omega))
                    | 9, ho, hD =>
                      cases ho
                      have e60 := slot_tmps (List.cons.inj (hD 8 (by decide))).1
                      have hCA := hC9.same (Same.of_below hR)
                      have c1 := hCA.fst ix hlt
                      have c2 := hCA.snd ix hlt
                      rw [Nat.zero_add] at c1 c2
                      rw [hfe.out] at c1 c2
                      refine rgw_val (wanted_none rfl) (i64 p0) (by simp [go_sem, e60, c1]) (BR.refl _) ?_
                      exact congrArg (fun v => [v]) (slotOf_same act 61 _ (by omega))
                    | 10, ho, hD =>
                      cases ho
                      have e55 := slot_tmps (List.cons.inj (hD 3 (by decide))).1
                      have e61 := slot_tmps (List.cons.inj (hD 9 (by decide))).1
                      refine rgw_val (wanted_none rfl) (i64 (h - p0)) (by simp [go_sem, e55, e61, hw1]) (BR.refl _) ?_
                      exact congrArg (fun v => [v]) (slotOf_same act 62 _ (by omega))
                    | 11, ho, hD =>
                      cases ho
                      have e17 := slot_tmps (show slotOf act 17 = i64 E from hF.slot 17 (by kernel_rfl))
                      refine rgw_val (wanted_none rfl) (i64 E) (by simp [go_sem, e17]) (BR.refl _) ?_
                      exact congrArg (fun v => [v]) (slotOf_same act 63 _ (by omega))
                    | 12, ho, hD =>
                      cases ho
                      have e5 := slot_tmps (show slotOf act 5 = .pointer (some ⟨w.heap.size, 0, none⟩) from hF.slot 5 (by kernel_rfl))
                      refine rgw_val (wanted_none rfl) (.agg (bookCells B ta tc sa sc)) (by exact ex_load_row (a := act) 30 (.tmp 5) rfl w.heap.size (show slotOf act 5 = .pointer (some ⟨w.heap.size, 0, none⟩) from hF.slot 5 (by kernel_rfl)) 30 _ (0, 0) _ ((Below.block hR _ hxl9).trans hx9) Tryd.underlying30 rfl (by rw [size30]; rfl)) (BR.refl _) ?_
                      exact congrArg (fun v => [v]) (slotOf_same act 64 _ (by omega))
                    | 13, ho, hD =>
                      cases ho
                      have e4 := slot_tmps (show slotOf act 4 = i64 ld from hF.slot 4 (by kernel_rfl))
                      refine rgw_val (wanted_none rfl) (i64 ld) (by simp [go_sem, e4]) (BR.refl _) ?_
                      exact congrArg (fun v => [v]) (slotOf_same act 65 _ (by omega))
                    | 14, ho, hD =>
                      cases ho
                      have e64 := slot_tmps (List.cons.inj (hD 12 (by decide))).1
                      have e65 := slot_tmps (List.cons.inj (hD 13 (by decide))).1
                      refine rgw_call (wanted_none rfl) 104 #[bookVal B ta tc sa sc, i64 ld] (by simp [go_sem, e64, e65]) rfl ?_
                      refine (sinks_any B ta tc sa sc ld _ hk1 hk2 l0 l1).mono ?_
                      rintro e wB ⟨rfl, hb⟩
                      rw [hQ.out]
                      exact ⟨_, rfl, hb, congrArg (fun v => [v]) (slotOf_same act 66 _ (by omega))⟩
                    | 15, ho, hD =>
                      cases ho
                      have e63 := slot_tmps (List.cons.inj (hD 11 (by decide))).1
                      have e66 := slot_tmps (List.cons.inj (hD 14 (by decide))).1
                      refine rgw_val (wanted_none rfl) (i64 (E + Q)) (by simp [go_sem, e63, e66, hw2]) (BR.refl _) ?_
                      exact congrArg (fun v => [v]) (slotOf_same act 67 _ (by omega))
                    | 16, ho, hD =>
                      cases ho
                      have e5 := slot_tmps (show slotOf act 5 = .pointer (some ⟨w.heap.size, 0, none⟩) from hF.slot 5 (by kernel_rfl))
                      refine rgw_val (wanted_none rfl) (.pointer (some ⟨w.heap.size, 12, none⟩)) (by simp [go_sem, e5]) (BR.refl _) ?_
                      exact congrArg (fun v => [v]) (slotOf_same act 68 _ (by omega))
                    | 17, ho, hD =>
                      cases ho
                      have e68 := slot_tmps (List.cons.inj (hD 16 (by decide))).1
                      have hxA := (Below.block hR _ hxl9).trans hx9
                      have hxc := cells_of hxA
                      refine rgw_val (wanted_none rfl) (i64 B.under) (by simp [go_sem, e68, hxc]) (BR.refl _) ?_
                      exact congrArg (fun v => [v]) (slotOf_same act 69 _ (by omega))
                    | 18, ho, hD =>
                      cases ho
                      have e67 := slot_tmps (List.cons.inj (hD 15 (by decide))).1
                      have e69 := slot_tmps (List.cons.inj (hD 17 (by decide))).1
                      refine rgw_val (wanted_none rfl) (i64 (E + Q + B.under)) (by simp [go_sem, e67, e69, hw3]) (BR.refl _) ?_
                      exact congrArg (fun v => [v]) (slotOf_same act 70 _ (by omega))
                    | 19, ho, hD =>
                      cases ho
                      have e62 := slot_tmps (List.cons.inj (hD 10 (by decide))).1
                      have e70 := slot_tmps (List.cons.inj (hD 18 (by decide))).1
                      refine rgw_val (wanted_none rfl) (.bool false) (by simp [go_sem, e62, e70, hc]) (BR.refl _) ?_
                      exact congrArg (fun v => [v]) (slotOf_same act 71 _ (by omega))
                    | 20, ho, hD =>
                      cases ho
                      have e71 := slot_tmps (List.cons.inj (hD 19 (by decide))).1
                      refine rgw_val (wanted_none rfl) (.bool false) (by simp [go_sem, e71]) (BR.refl _) ?_
                      exact congrArg (fun v => [v]) (slotOf_same act 72 _ (by omega))
                    | 21, ho, hD =>
                      cases ho
                      have dj : slotOf act 72 = .bool false := (List.cons.inj (hD 20 (by decide))).1
                      refine rgw_skip (by rw [wanted_of (d := 72) rfl rfl dj]; rfl) ?_
                      trivial
                    | 22, ho, hD =>
                      cases ho
                      have dj : slotOf act 72 = .bool false := (List.cons.inj (hD 20 (by decide))).1
                      refine rgw_skip (by rw [wanted_of (d := 72) rfl rfl dj]; rfl) ?_
                      trivial
                    | 23, ho, hD =>
                      cases ho
                      have dj : slotOf act 72 = .bool false := (List.cons.inj (hD 20 (by decide))).1
                      refine rgw_skip (by rw [wanted_of (d := 72) rfl rfl dj]; rfl) ?_
                      trivial
                    | 24, ho, hD =>
                      cases ho
                      have dj : slotOf act 72 = .bool false := (List.cons.inj (hD 20 (by decide))).1
                      refine rgw_skip (by rw [wanted_of (d := 72) rfl rfl dj]; rfl) ?_
                      trivial
                    | 25, ho, hD =>
                      cases ho
                      have dj : slotOf act 72 = .bool false := (List.cons.inj (hD 20 (by decide))).1
                      refine rgw_skip (by rw [wanted_of (d := 72) rfl rfl dj]; rfl) ?_
                      trivial
                    | 26, ho, hD =>
                      cases ho
                      have dj : slotOf act 72 = .bool false := (List.cons.inj (hD 20 (by decide))).1
                      refine rgw_skip (by rw [wanted_of (d := 72) rfl rfl dj]; rfl) ?_
                      trivial
                    | 27, ho, hD =>
                      cases ho
                      have dj : slotOf act 72 = .bool false := (List.cons.inj (hD 20 (by decide))).1
                      refine rgw_skip (by rw [wanted_of (d := 72) rfl rfl dj]; rfl) ?_
                      trivial
                    | 28, ho, hD =>
                      cases ho
                      have dj : slotOf act 72 = .bool false := (List.cons.inj (hD 20 (by decide))).1
                      refine rgw_skip (by rw [wanted_of (d := 72) rfl rfl dj]; rfl) ?_
                      trivial
                    | 29, ho, hD =>
                      cases ho
                      have dj : slotOf act 72 = .bool false := (List.cons.inj (hD 20 (by decide))).1
                      refine rgw_skip (by rw [wanted_of (d := 72) rfl rfl dj]; rfl) ?_
                      trivial
                    | 30, ho, hD =>
                      cases ho
                      have e72 := slot_tmps (List.cons.inj (hD 20 (by decide))).1
                      refine rgw_val (wanted_none rfl) (.bool false) (by simp [go_sem, e72]) (BR.refl _) ?_
                      exact congrArg (fun v => [v]) (slotOf_same act 82 _ (by omega))
                    | 31, ho, hD =>
                      cases ho
                      have e82 := slot_tmps (List.cons.inj (hD 30 (by decide))).1
                      refine rgw_val (wanted_none rfl) (.bool false) (by simp [go_sem, e82]) (BR.refl _) ?_
                      exact congrArg (fun v => [v]) (slotOf_same act 18 _ (by omega))
                    | _ + 32, ho, _ => cases ho
                  · intro act wA hR hF hA
                    have f1 : slotOf act 1 = .slice la (cansB B).length lc := hF.slot 1 (by kernel_rfl)
                    have f2 : slotOf act 2 = i64 0 := hF.slot 2 (by kernel_rfl)
                    have f3 : slotOf act 3 = i64 hr := hF.slot 3 (by kernel_rfl)
                    have f4 : slotOf act 4 = i64 ld := hF.slot 4 (by kernel_rfl)
                    have f5 : slotOf act 5 = .pointer (some ⟨w.heap.size, 0, none⟩) := hF.slot 5 (by kernel_rfl)
                    have f11 : slotOf act 11 = .bool S := hF.slot 11 (by kernel_rfl)
                    have f12 : slotOf act 12 = .bool A := hF.slot 12 (by kernel_rfl)
                    have f13 : slotOf act 13 = .pointer (some ⟨w.heap.size + 1, 0, none⟩) := hF.slot 13 (by kernel_rfl)
                    have f14 : slotOf act 14 = i64 ix := hF.slot 14 (by kernel_rfl)
                    have f15 : slotOf act 15 = .slice ja L.length jc := hF.slot 15 (by kernel_rfl)
                    have f16 : slotOf act 16 = i64 k := hF.slot 16 (by kernel_rfl)
                    have f17 : slotOf act 17 = i64 E := hF.slot 17 (by kernel_rfl)
                    have f18 : slotOf act 18 = .bool false := (List.cons.inj (hA 31 (by decide))).1
                    have f52 : slotOf act 52 = .slice ja L.length jc := (List.cons.inj (hA 0 (by decide))).1
                    have f53 : slotOf act 53 = i64 k := (List.cons.inj (hA 1 (by decide))).1
                    have f54 : slotOf act 54 = .pointer (some ⟨jb, jo + k, none⟩) := (List.cons.inj (hA 2 (by decide))).1
                    have f55 : slotOf act 55 = i64 h := (List.cons.inj (hA 3 (by decide))).1
                    have f56 : slotOf act 56 = .slice la (cansB B).length lc := (List.cons.inj (hA 4 (by decide))).1
                    have f57 : slotOf act 57 = i64 ix := (List.cons.inj (hA 5 (by decide))).1
                    have f58 : slotOf act 58 = i64 0 := (List.cons.inj (hA 6 (by decide))).1
                    have f59 : slotOf act 59 = .pointer (some ⟨lb, ix * 2, none⟩) := (List.cons.inj (hA 7 (by decide))).1
                    have f60 : slotOf act 60 = .pointer (some ⟨lb, ix * 2, none⟩) := (List.cons.inj (hA 8 (by decide))).1
                    have f61 : slotOf act 61 = i64 p0 := (List.cons.inj (hA 9 (by decide))).1
                    have f62 : slotOf act 62 = i64 (h - p0) := (List.cons.inj (hA 10 (by decide))).1
                    have f63 : slotOf act 63 = i64 E := (List.cons.inj (hA 11 (by decide))).1
                    have f64 : slotOf act 64 = .agg (bookCells B ta tc sa sc) := (List.cons.inj (hA 12 (by decide))).1
                    have f65 : slotOf act 65 = i64 ld := (List.cons.inj (hA 13 (by decide))).1
                    have f66 : slotOf act 66 = i64 Q := (List.cons.inj (hA 14 (by decide))).1
                    have f67 : slotOf act 67 = i64 (E + Q) := (List.cons.inj (hA 15 (by decide))).1
                    have f68 : slotOf act 68 = .pointer (some ⟨w.heap.size, 12, none⟩) := (List.cons.inj (hA 16 (by decide))).1
                    have f69 : slotOf act 69 = i64 B.under := (List.cons.inj (hA 17 (by decide))).1
                    have f70 : slotOf act 70 = i64 (E + Q + B.under) := (List.cons.inj (hA 18 (by decide))).1
                    have f71 : slotOf act 71 = .bool false := (List.cons.inj (hA 19 (by decide))).1
                    have f72 : slotOf act 72 = .bool false := (List.cons.inj (hA 20 (by decide))).1
                    have f82 : slotOf act 82 = .bool false := (List.cons.inj (hA 30 (by decide))).1
                    rw [act_eta act 93 hF.size hF.defers]
                    simp only [show List.range 93 = [0, 1, 2, 3, 4, 5, 6, 7, 8, 9, 10, 11, 12, 13, 14, 15, 16, 17, 18, 19, 20, 21, 22, 23, 24, 25, 26, 27, 28, 29, 30, 31, 32, 33, 34, 35, 36, 37, 38, 39, 40, 41, 42, 43, 44, 45, 46, 47, 48, 49, 50, 51, 52, 53, 54, 55, 56, 57, 58, 59, 60, 61, 62, 63, 64, 65, 66, 67, 68, 69, 70, 71, 72, 73, 74, 75, 76, 77, 78, 79, 80, 81, 82, 83, 84, 85, 86, 87, 88, 89, 90, 91, 92] from rfl, List.map_cons, List.map_nil, f1, f2, f3, f4, f5, f11, f12, f13, f14, f15, f16, f17, f18, f52, f53, f54, f55, f56, f57, f58, f59, f60, f61, f62, f63, f64, f65, f66, f67, f68, f69, f70, f71, f72, f82]
                    clear hA hF f1 f2 f3 f4 f5 f11 f12 f13 f14 f15 f16 f17 f18 f52 f53 f54 f55 f56 f57 f58 f59 f60 f61 f62 f63 f64 f65 f66 f67 f68 f69 f70 f71 f72 f82
                    have hb10 := hb9.trans (Below.mono hR hb9.size)
                    have hsS := eS_succ B 0 ld h p0 m
                    have hsA := eA_succ B 0 ld h p0 m
                    rw [(hf hc).out] at hsS hsA
                    replace hsS := Lib.hid hsS
                    replace hsA := Lib.hid hsA
                    clear hR
                    cases S <;> cases A <;> (
                      go_wp2_with fail
                      refine ⟨⟨m + 1, _, _, by omega, ⟨⟨⟨rfl, rfl, rfl, rfl, rfl, rfl, rfl, rfl, rfl, rfl, rfl, hb10⟩, rfl, rfl⟩, congrArg (Value.int .i64) (by have := hE.out; omega)⟩, flagS hS.out hsS.out rfl, flagA hA.out hsA.out rfl⟩, laE_lt hEle rfl rfl⟩)
                · go_wp2_with fail
                  refine rg_region rdLa13s0t pureLa13s0t (gLa13s0t w B ta tc sa sc la lc lb ix ld p0 ja L.length jc jb jo k h E Q) BR (by kernel_rfl) (by kernel_rfl) (fun n => BR.drawn _ n) BR.refl (fun _ _ _ => BR.trans) ?_ ?_ ?_
                  · intro i hi vs wA wB hG hR
                    match i, hi, hG with
                    | 0, _, hG => exact hG
                    | 1, _, hG => exact hG
                    | 2, _, hG => exact hG
                    | 3, _, hG => exact hG
                    | 4, _, hG => exact hG
                    | 5, _, hG => exact hG
                    | 6, _, hG => exact hG
                    | 7, _, hG => exact hG
                    | 8, _, hG => exact hG
                    | 9, _, hG => exact hG
                    | 10, _, hG => exact hG
                    | 11, _, hG => exact hG
                    | 12, _, hG => exact hG
                    | 13, _, hG => exact hG
                    | 14, _, hG => exact hG
                    | 15, _, hG => exact hG
                    | 16, _, hG => exact hG
                    | 17, _, hG => exact hG
                    | 18, _, hG => exact hG
                    | 19, _, hG => exact hG
                    | 20, _, hG => exact hG
                    | 21, _, hG => exact hG
                    | 22, _, hG => exact hG
                    | 23, _, hG => exact hG
                    | 24, _, hG => exact hG
                    | 25, _, hG => exact hG
                    | 26, _, hG => exact hG
                    | 27, _, hG => exact hG
                    | 28, _, hG => exact hG
                    | 29, _, hG => exact hG
                    | 30, _, hG => exact hG
                    | 31, _, hG => exact hG
                    | _ + 32, _, _ => trivial
                  · intro i op ho act wA hR hF hD
                    have sz : act.tmps.size = 93 := hF.size
                    match i, ho, hD with
                    | 0, ho, hD =>
                      cases ho
                      have e15 := slot_tmps (show slotOf act 15 = .slice ja L.length jc from hF.slot 15 (by kernel_rfl))
                      refine rgw_val (wanted_none rfl) (.slice ja L.length jc) (by simp [go_sem, e15]) (BR.refl _) ?_
                      exact congrArg (fun v => [v]) (slotOf_same act 52 _ (by omega))
                    | 1, ho, hD =>
                      cases ho
                      have e16 := slot_tmps (show slotOf act 16 = i64 k from hF.slot 16 (by kernel_rfl))
                      refine rgw_val (wanted_none rfl) (i64 k) (by simp [go_sem, e16]) (BR.refl _) ?_
                      exact congrArg (fun v => [v]) (slotOf_same act 53 _ (by omega))
                    | 2, ho, hD =>
                      cases ho
                      have e52 := slot_tmps (List.cons.inj (hD 0 (by decide))).1
                      have e53 := slot_tmps (List.cons.inj (hD 1 (by decide))).1
                      refine rgw_val (wanted_none rfl) (.pointer (some ⟨jb, jo + k, none⟩)) (by simp [go_sem, e52, e53, hi40]) (BR.refl _) ?_
                      exact congrArg (fun v => [v]) (slotOf_same act 54 _ (by omega))
                    | 3, ho, hD =>
                      cases ho
                      have e54 := slot_tmps (List.cons.inj (hD 2 (by decide))).1
                      have hJA := hJ9.same (Same.of_below (Below.mono hR hb9.size))
                      have hjc := hJA.cell k hkl
                      rw [hhe.out] at hjc
                      refine rgw_val (wanted_none rfl) (i64 h) (by simp [go_sem, e54, hjc]) (BR.refl _) ?_
                      exact congrArg (fun v => [v]) (slotOf_same act 55 _ (by omega))
                    | 4, ho, hD =>
                      cases ho
                      have e1 := slot_tmps (show slotOf act 1 = .slice la (cansB B).length lc from hF.slot 1 (by kernel_rfl))
                      refine rgw_val (wanted_none rfl) (.slice la (cansB B).length lc) (by simp [go_sem, e1]) (BR.refl _) ?_
                      exact congrArg (fun v => [v]) (slotOf_same act 56 _ (by omega))
                    | 5, ho, hD =>
                      cases ho
                      have e14 := slot_tmps (show slotOf act 14 = i64 ix from hF.slot 14 (by kernel_rfl))
                      refine rgw_val (wanted_none rfl) (i64 ix) (by simp [go_sem, e14]) (BR.refl _) ?_
                      exact congrArg (fun v => [v]) (slotOf_same act 57 _ (by omega))
                    | 6, ho, hD =>
                      cases ho
                      have e2 := slot_tmps (show slotOf act 2 = i64 0 from hF.slot 2 (by kernel_rfl))
                      refine rgw_val (wanted_none rfl) (i64 0) (by simp [go_sem, e2]) (BR.refl _) ?_
                      exact congrArg (fun v => [v]) (slotOf_same act 58 _ (by omega))
                    | 7, ho, hD =>
                      cases ho
                      have e56 := slot_tmps (List.cons.inj (hD 4 (by decide))).1
                      have e57 := slot_tmps (List.cons.inj (hD 5 (by decide))).1
                      refine rgw_val (wanted_none rfl) (.pointer (some ⟨lb, ix * 2, none⟩)) (by simp [go_sem, e56, e57, hi111]) (BR.refl _) ?_
                      exact congrArg (fun v => [v]) (slotOf_same act 59 _ (by omega))
                    | 8, ho, hD =>
                      cases ho
                      have e58 := slot_tmps (List.cons.inj (hD 6 (by decide))).1
                      have e59 := slot_tmps (List.cons.inj (hD 7 (by decide))).1
                      refine rgw_val (wanted_none rfl) (.pointer (some ⟨lb, ix * 2, none⟩)) (by simp [go_sem, e58, e59]) (BR.refl _) ?_
                      exact congrArg (fun v => [v]) (slotOf_same act 60 _ (by omega))
                    | 9, ho, hD =>
                      cases ho
                      have e60 := slot_tmps (List.cons.inj (hD 8 (by decide))).1
                      have hCA := hC9.same (Same.of_below hR)
                      have c1 := hCA.fst ix hlt
                      have c2 := hCA.snd ix hlt
                      rw [Nat.zero_add] at c1 c2
                      rw [hfe.out] at c1 c2
                      refine rgw_val (wanted_none rfl) (i64 p0) (by simp [go_sem, e60, c1]) (BR.refl _) ?_
                      exact congrArg (fun v => [v]) (slotOf_same act 61 _ (by omega))
                    | 10, ho, hD =>
                      cases ho
                      have e55 := slot_tmps (List.cons.inj (hD 3 (by decide))).1
                      have e61 := slot_tmps (List.cons.inj (hD 9 (by decide))).1
                      refine rgw_val (wanted_none rfl) (i64 (h - p0)) (by simp [go_sem, e55, e61, hw1]) (BR.refl _) ?_
                      exact congrArg (fun v => [v]) (slotOf_same act 62 _ (by omega))
                    | 11, ho, hD =>
                      cases ho
                      have e17 := slot_tmps (show slotOf act 17 = i64 E from hF.slot 17 (by kernel_rfl))
                      refine rgw_val (wanted_none rfl) (i64 E) (by simp [go_sem, e17]) (BR.refl _) ?_
                      exact congrArg (fun v => [v]) (slotOf_same act 63 _ (by omega))
                    | 12, ho, hD =>
                      cases ho
                      have e5 := slot_tmps (show slotOf act 5 = .pointer (some ⟨w.heap.size, 0, none⟩) from hF.slot 5 (by kernel_rfl))
                      refine rgw_val (wanted_none rfl) (.agg (bookCells B ta tc sa sc)) (by exact ex_load_row (a := act) 30 (.tmp 5) rfl w.heap.size (show slotOf act 5 = .pointer (some ⟨w.heap.size, 0, none⟩) from hF.slot 5 (by kernel_rfl)) 30 _ (0, 0) _ ((Below.block hR _ hxl9).trans hx9) Tryd.underlying30 rfl (by rw [size30]; rfl)) (BR.refl _) ?_
                      exact congrArg (fun v => [v]) (slotOf_same act 64 _ (by omega))
                    | 13, ho, hD =>
                      cases ho
                      have e4 := slot_tmps (show slotOf act 4 = i64 ld from hF.slot 4 (by kernel_rfl))
                      refine rgw_val (wanted_none rfl) (i64 ld) (by simp [go_sem, e4]) (BR.refl _) ?_
                      exact congrArg (fun v => [v]) (slotOf_same act 65 _ (by omega))
                    | 14, ho, hD =>
                      cases ho
                      have e64 := slot_tmps (List.cons.inj (hD 12 (by decide))).1
                      have e65 := slot_tmps (List.cons.inj (hD 13 (by decide))).1
                      refine rgw_call (wanted_none rfl) 104 #[bookVal B ta tc sa sc, i64 ld] (by simp [go_sem, e64, e65]) rfl ?_
                      refine (sinks_any B ta tc sa sc ld _ hk1 hk2 l0 l1).mono ?_
                      rintro e wB ⟨rfl, hb⟩
                      rw [hQ.out]
                      exact ⟨_, rfl, hb, congrArg (fun v => [v]) (slotOf_same act 66 _ (by omega))⟩
                    | 15, ho, hD =>
                      cases ho
                      have e63 := slot_tmps (List.cons.inj (hD 11 (by decide))).1
                      have e66 := slot_tmps (List.cons.inj (hD 14 (by decide))).1
                      refine rgw_val (wanted_none rfl) (i64 (E + Q)) (by simp [go_sem, e63, e66, hw2]) (BR.refl _) ?_
                      exact congrArg (fun v => [v]) (slotOf_same act 67 _ (by omega))
                    | 16, ho, hD =>
                      cases ho
                      have e5 := slot_tmps (show slotOf act 5 = .pointer (some ⟨w.heap.size, 0, none⟩) from hF.slot 5 (by kernel_rfl))
                      refine rgw_val (wanted_none rfl) (.pointer (some ⟨w.heap.size, 12, none⟩)) (by simp [go_sem, e5]) (BR.refl _) ?_
                      exact congrArg (fun v => [v]) (slotOf_same act 68 _ (by omega))
                    | 17, ho, hD =>
                      cases ho
                      have e68 := slot_tmps (List.cons.inj (hD 16 (by decide))).1
                      have hxA := (Below.block hR _ hxl9).trans hx9
                      have hxc := cells_of hxA
                      refine rgw_val (wanted_none rfl) (i64 B.under) (by simp [go_sem, e68, hxc]) (BR.refl _) ?_
                      exact congrArg (fun v => [v]) (slotOf_same act 69 _ (by omega))
                    | 18, ho, hD =>
                      cases ho
                      have e67 := slot_tmps (List.cons.inj (hD 15 (by decide))).1
                      have e69 := slot_tmps (List.cons.inj (hD 17 (by decide))).1
                      refine rgw_val (wanted_none rfl) (i64 (E + Q + B.under)) (by simp [go_sem, e67, e69, hw3]) (BR.refl _) ?_
                      exact congrArg (fun v => [v]) (slotOf_same act 70 _ (by omega))
                    | 19, ho, hD =>
                      cases ho
                      have e62 := slot_tmps (List.cons.inj (hD 10 (by decide))).1
                      have e70 := slot_tmps (List.cons.inj (hD 18 (by decide))).1
                      refine rgw_val (wanted_none rfl) (.bool true) (by simp [go_sem, e62, e70, hc]) (BR.refl _) ?_
                      exact congrArg (fun v => [v]) (slotOf_same act 71 _ (by omega))
                    | 20, ho, hD =>
                      cases ho
                      have e71 := slot_tmps (List.cons.inj (hD 19 (by decide))).1
                      refine rgw_val (wanted_none rfl) (.bool true) (by simp [go_sem, e71]) (BR.refl _) ?_
                      exact congrArg (fun v => [v]) (slotOf_same act 72 _ (by omega))
                    | 21, ho, hD =>
                      cases ho
                      have dj : slotOf act 72 = .bool true := (List.cons.inj (hD 20 (by decide))).1
                      have e15 := slot_tmps (show slotOf act 15 = .slice ja L.length jc from hF.slot 15 (by kernel_rfl))
                      refine rgw_val (by rw [wanted_of (d := 72) rfl rfl dj]; rfl) (.slice ja L.length jc) (by simp [go_sem, e15]) (BR.refl _) ?_
                      exact congrArg (fun v => [v]) (slotOf_same act 73 _ (by omega))
                    | 22, ho, hD =>
                      cases ho
                      have dj : slotOf act 72 = .bool true := (List.cons.inj (hD 20 (by decide))).1
                      have e16 := slot_tmps (show slotOf act 16 = i64 k from hF.slot 16 (by kernel_rfl))
                      refine rgw_val (by rw [wanted_of (d := 72) rfl rfl dj]; rfl) (i64 k) (by simp [go_sem, e16]) (BR.refl _) ?_
                      exact congrArg (fun v => [v]) (slotOf_same act 74 _ (by omega))
                    | 23, ho, hD =>
                      cases ho
                      have dj : slotOf act 72 = .bool true := (List.cons.inj (hD 20 (by decide))).1
                      have e73 := slot_tmps (List.cons.inj (hD 21 (by decide))).1
                      have e74 := slot_tmps (List.cons.inj (hD 22 (by decide))).1
                      refine rgw_val (by rw [wanted_of (d := 72) rfl rfl dj]; rfl) (.pointer (some ⟨jb, jo + k, none⟩)) (by simp [go_sem, e73, e74, hi40]) (BR.refl _) ?_
                      exact congrArg (fun v => [v]) (slotOf_same act 75 _ (by omega))
                    | 24, ho, hD =>
                      cases ho
                      have dj : slotOf act 72 = .bool true := (List.cons.inj (hD 20 (by decide))).1
                      have e75 := slot_tmps (List.cons.inj (hD 23 (by decide))).1
                      have hJA := hJ9.same (Same.of_below (Below.mono hR hb9.size))
                      have hjc := hJA.cell k hkl
                      rw [hhe.out] at hjc
                      refine rgw_val (by rw [wanted_of (d := 72) rfl rfl dj]; rfl) (i64 h) (by simp [go_sem, e75, hjc]) (BR.refl _) ?_
                      exact congrArg (fun v => [v]) (slotOf_same act 76 _ (by omega))
                    | 25, ho, hD =>
                      cases ho
                      have dj : slotOf act 72 = .bool true := (List.cons.inj (hD 20 (by decide))).1
                      have e13 := slot_tmps (show slotOf act 13 = .pointer (some ⟨w.heap.size + 1, 0, none⟩) from hF.slot 13 (by kernel_rfl))
                      refine rgw_val (by rw [wanted_of (d := 72) rfl rfl dj]; rfl) (.pointer (some ⟨w.heap.size + 1, 2, none⟩)) (by simp [go_sem, e13]) (BR.refl _) ?_
                      exact congrArg (fun v => [v]) (slotOf_same act 77 _ (by omega))
                    | 26, ho, hD =>
                      cases ho
                      have dj : slotOf act 72 = .bool true := (List.cons.inj (hD 20 (by decide))).1
                      have e77 := slot_tmps (List.cons.inj (hD 25 (by decide))).1
                      have hgA := (Below.block hR _ hgl9).trans hg9
                      have hgc := cells_of hgA
                      refine rgw_val (by rw [wanted_of (d := 72) rfl rfl dj]; rfl) (i64 B.s0.lo) (by simp [go_sem, e77, hgc]) (BR.refl _) ?_
                      exact congrArg (fun v => [v]) (slotOf_same act 78 _ (by omega))
                    | 27, ho, hD =>
                      cases ho
                      have dj : slotOf act 72 = .bool true := (List.cons.inj (hD 20 (by decide))).1
                      have e13 := slot_tmps (show slotOf act 13 = .pointer (some ⟨w.heap.size + 1, 0, none⟩) from hF.slot 13 (by kernel_rfl))
                      refine rgw_val (by rw [wanted_of (d := 72) rfl rfl dj]; rfl) (.pointer (some ⟨w.heap.size + 1, 3, none⟩)) (by simp [go_sem, e13]) (BR.refl _) ?_
                      exact congrArg (fun v => [v]) (slotOf_same act 79 _ (by omega))
                    | 28, ho, hD =>
                      cases ho
                      have dj : slotOf act 72 = .bool true := (List.cons.inj (hD 20 (by decide))).1
                      have e79 := slot_tmps (List.cons.inj (hD 27 (by decide))).1
                      have hgA := (Below.block hR _ hgl9).trans hg9
                      have hgc := cells_of hgA
                      refine rgw_val (by rw [wanted_of (d := 72) rfl rfl dj]; rfl) (i64 B.s0.hi) (by simp [go_sem, e79, hgc]) (BR.refl _) ?_
                      exact congrArg (fun v => [v]) (slotOf_same act 80 _ (by omega))
                    | 29, ho, hD =>
                      cases ho
                      have dj : slotOf act 72 = .bool true := (List.cons.inj (hD 20 (by decide))).1
                      have e76 := slot_tmps (List.cons.inj (hD 24 (by decide))).1
                      have e78 := slot_tmps (List.cons.inj (hD 26 (by decide))).1
                      have e80 := slot_tmps (List.cons.inj (hD 28 (by decide))).1
                      refine rgw_call (by rw [wanted_of (d := 72) rfl rfl dj]; rfl) 31 #[i64 h, i64 B.s0.lo, i64 B.s0.hi] (by simp [go_sem, e76, e78, e80]) rfl ?_
                      refine (inside_any _ _ _ _).mono ?_
                      rintro e wB ⟨rfl, rfl⟩
                      exact ⟨_, rfl, BR.refl _, congrArg (fun v => [v]) (slotOf_same act 81 _ (by omega))⟩
                    | 30, ho, hD =>
                      cases ho
                      have e72 := slot_tmps (List.cons.inj (hD 20 (by decide))).1
                      have e81 := slot_tmps (List.cons.inj (hD 29 (by decide))).1
                      refine rgw_val (wanted_none rfl) (.bool (inB h B.s0.lo B.s0.hi)) (by simp [go_sem, e72, e81]) (BR.refl _) ?_
                      exact congrArg (fun v => [v]) (slotOf_same act 82 _ (by omega))
                    | 31, ho, hD =>
                      cases ho
                      have e82 := slot_tmps (List.cons.inj (hD 30 (by decide))).1
                      refine rgw_val (wanted_none rfl) (.bool (inB h B.s0.lo B.s0.hi)) (by simp [go_sem, e82]) (BR.refl _) ?_
                      exact congrArg (fun v => [v]) (slotOf_same act 18 _ (by omega))
                    | _ + 32, ho, _ => cases ho
                  · intro act wA hR hF hA
                    have f1 : slotOf act 1 = .slice la (cansB B).length lc := hF.slot 1 (by kernel_rfl)
                    have f2 : slotOf act 2 = i64 0 := hF.slot 2 (by kernel_rfl)
                    have f3 : slotOf act 3 = i64 hr := hF.slot 3 (by kernel_rfl)
                    have f4 : slotOf act 4 = i64 ld := hF.slot 4 (by kernel_rfl)
                    have f5 : slotOf act 5 = .pointer (some ⟨w.heap.size, 0, none⟩) := hF.slot 5 (by kernel_rfl)
                    have f11 : slotOf act 11 = .bool S := hF.slot 11 (by kernel_rfl)
                    have f12 : slotOf act 12 = .bool A := hF.slot 12 (by kernel_rfl)
                    have f13 : slotOf act 13 = .pointer (some ⟨w.heap.size + 1, 0, none⟩) := hF.slot 13 (by kernel_rfl)
                    have f14 : slotOf act 14 = i64 ix := hF.slot 14 (by kernel_rfl)
                    have f15 : slotOf act 15 = .slice ja L.length jc := hF.slot 15 (by kernel_rfl)
                    have f16 : slotOf act 16 = i64 k := hF.slot 16 (by kernel_rfl)
                    have f17 : slotOf act 17 = i64 E := hF.slot 17 (by kernel_rfl)
                    have f18 : slotOf act 18 = .bool (inB h B.s0.lo B.s0.hi) := (List.cons.inj (hA 31 (by decide))).1
                    have f52 : slotOf act 52 = .slice ja L.length jc := (List.cons.inj (hA 0 (by decide))).1
                    have f53 : slotOf act 53 = i64 k := (List.cons.inj (hA 1 (by decide))).1
                    have f54 : slotOf act 54 = .pointer (some ⟨jb, jo + k, none⟩) := (List.cons.inj (hA 2 (by decide))).1
                    have f55 : slotOf act 55 = i64 h := (List.cons.inj (hA 3 (by decide))).1
                    have f56 : slotOf act 56 = .slice la (cansB B).length lc := (List.cons.inj (hA 4 (by decide))).1
                    have f57 : slotOf act 57 = i64 ix := (List.cons.inj (hA 5 (by decide))).1
                    have f58 : slotOf act 58 = i64 0 := (List.cons.inj (hA 6 (by decide))).1
                    have f59 : slotOf act 59 = .pointer (some ⟨lb, ix * 2, none⟩) := (List.cons.inj (hA 7 (by decide))).1
                    have f60 : slotOf act 60 = .pointer (some ⟨lb, ix * 2, none⟩) := (List.cons.inj (hA 8 (by decide))).1
                    have f61 : slotOf act 61 = i64 p0 := (List.cons.inj (hA 9 (by decide))).1
                    have f62 : slotOf act 62 = i64 (h - p0) := (List.cons.inj (hA 10 (by decide))).1
                    have f63 : slotOf act 63 = i64 E := (List.cons.inj (hA 11 (by decide))).1
                    have f64 : slotOf act 64 = .agg (bookCells B ta tc sa sc) := (List.cons.inj (hA 12 (by decide))).1
                    have f65 : slotOf act 65 = i64 ld := (List.cons.inj (hA 13 (by decide))).1
                    have f66 : slotOf act 66 = i64 Q := (List.cons.inj (hA 14 (by decide))).1
                    have f67 : slotOf act 67 = i64 (E + Q) := (List.cons.inj (hA 15 (by decide))).1
                    have f68 : slotOf act 68 = .pointer (some ⟨w.heap.size, 12, none⟩) := (List.cons.inj (hA 16 (by decide))).1
                    have f69 : slotOf act 69 = i64 B.under := (List.cons.inj (hA 17 (by decide))).1
                    have f70 : slotOf act 70 = i64 (E + Q + B.under) := (List.cons.inj (hA 18 (by decide))).1
                    have f71 : slotOf act 71 = .bool true := (List.cons.inj (hA 19 (by decide))).1
                    have f72 : slotOf act 72 = .bool true := (List.cons.inj (hA 20 (by decide))).1
                    have f73 : slotOf act 73 = .slice ja L.length jc := (List.cons.inj (hA 21 (by decide))).1
                    have f74 : slotOf act 74 = i64 k := (List.cons.inj (hA 22 (by decide))).1
                    have f75 : slotOf act 75 = .pointer (some ⟨jb, jo + k, none⟩) := (List.cons.inj (hA 23 (by decide))).1
                    have f76 : slotOf act 76 = i64 h := (List.cons.inj (hA 24 (by decide))).1
                    have f77 : slotOf act 77 = .pointer (some ⟨w.heap.size + 1, 2, none⟩) := (List.cons.inj (hA 25 (by decide))).1
                    have f78 : slotOf act 78 = i64 B.s0.lo := (List.cons.inj (hA 26 (by decide))).1
                    have f79 : slotOf act 79 = .pointer (some ⟨w.heap.size + 1, 3, none⟩) := (List.cons.inj (hA 27 (by decide))).1
                    have f80 : slotOf act 80 = i64 B.s0.hi := (List.cons.inj (hA 28 (by decide))).1
                    have f81 : slotOf act 81 = .bool (inB h B.s0.lo B.s0.hi) := (List.cons.inj (hA 29 (by decide))).1
                    have f82 : slotOf act 82 = .bool (inB h B.s0.lo B.s0.hi) := (List.cons.inj (hA 30 (by decide))).1
                    rw [act_eta act 93 hF.size hF.defers]
                    simp only [show List.range 93 = [0, 1, 2, 3, 4, 5, 6, 7, 8, 9, 10, 11, 12, 13, 14, 15, 16, 17, 18, 19, 20, 21, 22, 23, 24, 25, 26, 27, 28, 29, 30, 31, 32, 33, 34, 35, 36, 37, 38, 39, 40, 41, 42, 43, 44, 45, 46, 47, 48, 49, 50, 51, 52, 53, 54, 55, 56, 57, 58, 59, 60, 61, 62, 63, 64, 65, 66, 67, 68, 69, 70, 71, 72, 73, 74, 75, 76, 77, 78, 79, 80, 81, 82, 83, 84, 85, 86, 87, 88, 89, 90, 91, 92] from rfl, List.map_cons, List.map_nil, f1, f2, f3, f4, f5, f11, f12, f13, f14, f15, f16, f17, f18, f52, f53, f54, f55, f56, f57, f58, f59, f60, f61, f62, f63, f64, f65, f66, f67, f68, f69, f70, f71, f72, f73, f74, f75, f76, f77, f78, f79, f80, f81, f82]
                    clear hA hF f1 f2 f3 f4 f5 f11 f12 f13 f14 f15 f16 f17 f18 f52 f53 f54 f55 f56 f57 f58 f59 f60 f61 f62 f63 f64 f65 f66 f67 f68 f69 f70 f71 f72 f73 f74 f75 f76 f77 f78 f79 f80 f81 f82
                    have hb10 := hb9.trans (Below.mono hR hb9.size)
                    have hsS := eS_succ B 0 ld h p0 m
                    have hsA := eA_succ B 0 ld h p0 m
                    rw [(ht hc).out] at hsS hsA
                    replace hsS := Lib.hid hsS
                    replace hsA := Lib.hid hsA
                    clear hR
                    generalize inB h B.s0.lo B.s0.hi = J at hsS hsA ⊢
                    cases J <;> cases S <;> cases A <;> (
                      go_wp2_with fail
                      refine ⟨⟨m + 1, _, _, by omega, ⟨⟨⟨rfl, rfl, rfl, rfl, rfl, rfl, rfl, rfl, rfl, rfl, rfl, hb10⟩, rfl, rfl⟩, congrArg (Value.int .i64) (by have := hE.out; omega)⟩, flagS hS.out hsS.out rfl, flagA hA.out hsA.out rfl⟩, laE_lt hEle rfl rfl⟩)
              · have hEle : ¬ E ≤ B.eh := by have := hE.out; omega
                have hEle' : decide (E ≤ B.eh) = false := decide_eq_false hEle
                obtain rfl : m = (B.eh - B.el + 1).toNat := by omega
                go_wp2_with fail
                refine ⟨⟨k + 1, _, _, by omega, ⟨⟨rfl, rfl, rfl, rfl, rfl, rfl, rfl, rfl, rfl, rfl, rfl, hb9⟩, rfl, congrArg (Value.int .i64) (Int.natCast_succ k).symm⟩, flagS2 hS1.out hS.out hkSs.out, flagA2 hA1.out hA.out hkAs.out⟩, laM_lt hkl rfl rfl⟩
          · have hkl' : ¬ (k : Int) < (L.length : Int) := by omega
            obtain rfl : k = L.length := by omega
            have hb7 := hb5.trans (hb6.mono hb5.size)
            go_wp2_with fail
            refine ⟨⟨ix + 1, _, _, by omega, ⟨rfl, rfl, rfl, rfl, rfl, rfl, rfl, rfl, rfl, rfl, congrArg (Value.int .i64) (Int.natCast_succ ix).symm, hb7⟩, by rw [hS1.out, hS.out]; exact hiSs.out.symm, by rw [hA1.out, hA.out]; exact hiAs.out.symm⟩, laM_lt hlt rfl rfl⟩
    · have hlt' : ¬ (ix : Int) < ((cansB B).length : Int) := by omega
      obtain rfl : ix = (cansB B).length := by omega
      have hbW := hb0.trans (hb3.mono hb0.size)
      have hS2 := hS.out
      have hA2 := hA.out
      rw [hSall.out] at hS2
      rw [hAall.out] at hA2
      have hkd : Hid (kindB B 0 hr ld = (if S then 1 else 0) + (if A then 1 else 0)) := Lib.hid (by rw [hS2, hA2]; rfl)
      have hsm := Lib.hid (fun h : A = true => show S = true from hS2 ▸ sure_maybe hV hcc h0 h1 (hA2 ▸ h))
      clear hS2 hA2 hS hA hSall hAall
      cases A
      · cases S
        · go_wp2_with fail
          go_ret
          exact ⟨by rw [hkd.out]; rfl, hbW⟩
        · go_wp2_with fail
          go_ret
          exact ⟨by rw [hkd.out]; rfl, hbW⟩
      · have hSt := hsm.out rfl
        subst hSt
        go_wp2_with fail
        go_ret
        exact ⟨by rw [hkd.out]; rfl, hbW⟩

set_option maxRecDepth 100000 in
set_option maxHeartbeats 16000000 in
theorem landsRef1_any (B : Book) (ta : Option Addr) (tc : Nat) (sa : Option Addr) (sc : Nat) (lb : Nat) (la : Option Addr) (lc : Nat) (hr ld : Int) (w : World) (hB : BookV w (bookVal B ta tc sa sc) B) (hC : CansAt w.heap.size w lb 0 la (cansB B)) (hV : Vld B) (hcc : ∃ f, CC B [] f) (h0 : 0 ≤ hr) (h1 : hr < B.tides.length) (l0 : 0 ≤ ld) (l1 : ld ≤ 1000) :
    Calls Tryd.prog 92 #[bookVal B ta tc sa sc, .slice la (cansB B).length lc, i64 1, i64 hr, i64 ld] w (fun e w' => e = .returned (i64 (kindB B 1 hr ld)) ∧ Below w.heap.size w w') := by
  have hbs := heap_alloc_new w (.cells (bookCells B ta tc sa sc) 30)
  have hxc := cells_of hbs
  have hxl := (Array.getElem?_eq_some_iff.1 hbs).1
  have hb0 : Below w.heap.size w ((w.alloc (.cells (bookCells B ta tc sa sc) 30)).alloc (.cells #[i64 B.s1.fl, i64 B.s1.fh, i64 B.s1.lo, i64 B.s1.hi] 26)) := ((Below.refl _ w).alloc (Nat.le_refl _) _).alloc (by simp) _
  have hx0 : ((w.alloc (.cells (bookCells B ta tc sa sc) 30)).alloc (.cells #[i64 B.s1.fl, i64 B.s1.fh, i64 B.s1.lo, i64 B.s1.hi] 26)).heap[w.heap.size]? = some (.cells (bookCells B ta tc sa sc) 30 (0, 0)) := (Below.heap_alloc _ _ _ (by simp)).trans (heap_alloc_new w _)
  have hg0 : ((w.alloc (.cells (bookCells B ta tc sa sc) 30)).alloc (.cells #[i64 B.s1.fl, i64 B.s1.fh, i64 B.s1.lo, i64 B.s1.hi] 26)).heap[w.heap.size + 1]? = some (.cells #[i64 B.s1.fl, i64 B.s1.fh, i64 B.s1.lo, i64 B.s1.hi] 26 (0, 0)) := heap_alloc2_new w _ _
  have hB0 := hB.below hb0
  have hC0 := (hC.same (Same.of_below hb0)).up hb0.size
  have hk1 := hV.k1
  have hk2 : B.sink ≤ 100 := by have := hV.k20; omega
  have he0 := hV.e0
  have hee := hV.ee
  have he40 := hV.e40
  have hu0 := hV.u0
  have hu10 := hV.u10
  have hQr := inchR_range (B := B) (ld := ld) hk1 hk2 l0 l1
  obtain ⟨Q, hQ⟩ : ∃ Q, Hid (inchR B ld = Q) := ⟨_, Lib.hid rfl⟩
  rw [hQ.out] at hQr
  have hSall := Lib.hid (iS_all B 1 hr ld)
  have hAall := Lib.hid (iA_all B 1 hr ld)
  have hl25 := cans25 hV
  go_enter Tryd.func92, Tryd.ntmps92
  go_wp2_with fail
  clear hbs hxc hxl
  obtain ⟨W0, hW0⟩ : ∃ W0, ((w.alloc (.cells (bookCells B ta tc sa sc) 30)).alloc (.cells #[i64 B.s1.fl, i64 B.s1.fh, i64 B.s1.lo, i64 B.s1.hi] 26)) = W0 := ⟨_, rfl⟩
  rw [hW0] at hb0 hx0 hg0 hB0 hC0 ⊢
  clear hW0
  refine wp_loop (LaIR w B la lc 1 hr ld W0) (fun act _ => laM (cansB B).length 14 act) ?_ ?_
  · exact ⟨0, _, _, Nat.zero_le _, ⟨rfl, rfl, rfl, rfl, rfl, rfl, rfl, rfl, rfl, rfl, rfl, Below.refl _ _⟩, rfl, rfl⟩
  · rintro act W3 ⟨ix, S, A, hix, ⟨hsz, hdf, s1, s2, s3, s4, s5, s11, s12, s13, s14, hb3⟩, hS, hA⟩
    rw [act_eta act 93 hsz hdf]
    simp only [show List.range 93 = [0, 1, 2, 3, 4, 5, 6, 7, 8, 9, 10, 11, 12, 13, 14, 15, 16, 17, 18, 19, 20, 21, 22, 23, 24, 25, 26, 27, 28, 29, 30, 31, 32, 33, 34, 35, 36, 37, 38, 39, 40, 41, 42, 43, 44, 45, 46, 47, 48, 49, 50, 51, 52, 53, 54, 55, 56, 57, 58, 59, 60, 61, 62, 63, 64, 65, 66, 67, 68, 69, 70, 71, 72, 73, 74, 75, 76, 77, 78, 79, 80, 81, 82, 83, 84, 85, 86, 87, 88, 89, 90, 91, 92] from rfl, List.map_cons, List.map_nil, s1, s2, s3, s4, s5, s11, s12, s13, s14]
    replace hS := Lib.hid hS
    replace hA := Lib.hid hA
    clear s1 s2 s3 s4 s5 s11 s12 s13 s14
    by_cases hlt : ix < (cansB B).length
    · have hlt' : (ix : Int) < ((cansB B).length : Int) := by omega
      have hx3 := (hb3.block _ (Array.getElem?_eq_some_iff.1 hx0).1).trans hx0
      have hxl3 := (Array.getElem?_eq_some_iff.1 hx3).1
      have hg3 := (hb3.block _ (Array.getElem?_eq_some_iff.1 hg0).1).trans hg0
      have hC3 := (hC0.same (Same.of_below hb3)).up hb3.size
      have hB3 := hB0.below hb3
      have hi111 : ∀ W, (Instr.indexAt 111 (.slice la (cansB B).length lc) (.int .i64 (ix : Int))).run Tryd.prog W = .ok (.pointer (some ⟨lb, ix * 2, none⟩)) W := fun W => by simpa using idx111 W (hC3.at_ (ne_nil_of_lt hlt)) hlt
      obtain ⟨p0, p1, hfe⟩ : ∃ p0 p1, Hid ((cansB B)[ix] = (p0, p1)) := ⟨_, _, Lib.hid rfl⟩
      have hmem : CC B [] (p0, p1) := mem_cansB.1 (hfe.out ▸ List.getElem_mem hlt)
      have hf0 : -1000 ≤ p0 ∧ p0 ≤ 1000 := by have := hmem.1; have a := hV.sh0.fl; have b := hV.sh0.fh; omega
      have hf1 : -1000 ≤ p1 ∧ p1 ≤ 1000 := by have := hmem.2.1; have a := hV.sh1.fl; have b := hV.sh1.fh; omega
      have hiSs := iS_succ B 1 hr ld (cansB B) ix hlt
      have hiAs := iA_succ B 1 hr ld (cansB B) ix hlt
      rw [hfe.out] at hiSs hiAs
      replace hiSs := Lib.hid hiSs
      replace hiAs := Lib.hid hiAs
      clear hmem
      go_wp2_with fail
      refine rg_region rdLa6s1 pureLa6s1 (gLa6s1 B ta tc sa sc la lc lb ix hr p0 p1) BR (by kernel_rfl) (by kernel_rfl) (fun n => BR.drawn _ n) BR.refl (fun _ _ _ => BR.trans) ?_ ?_ ?_
      · intro i hi vs wA wB hG hR
        match i, hi, hG with
        | 0, _, hG => exact hG
        | 1, _, hG => exact hG
        | 2, _, hG => exact hG
        | 3, _, hG => exact hG
        | 4, _, hG => exact hG
        | 5, _, hG => exact hG
        | 6, _, hG => obtain ⟨v, h1, h2⟩ := hG; exact ⟨v, h1, h2.below hR⟩
        | 7, _, hG => obtain ⟨v, h1, h2⟩ := hG; exact ⟨v, h1, h2.below hR⟩
        | _ + 8, _, _ => trivial
      · intro i op ho act wA hR hF hD
        have sz : act.tmps.size = 93 := hF.size
        match i, ho, hD with
        | 0, ho, hD =>
          cases ho
          have e5 := slot_tmps (show slotOf act 5 = .pointer (some ⟨w.heap.size, 0, none⟩) from hF.slot 5 (by kernel_rfl))
          refine rgw_val (wanted_none rfl) (.agg (bookCells B ta tc sa sc)) (by exact ex_load_row (a := act) 30 (.tmp 5) rfl w.heap.size (show slotOf act 5 = .pointer (some ⟨w.heap.size, 0, none⟩) from hF.slot 5 (by kernel_rfl)) 30 _ (0, 0) _ ((Below.block hR _ hxl3).trans hx3) Tryd.underlying30 rfl (by rw [size30]; rfl)) (BR.refl _) ?_
          exact congrArg (fun v => [v]) (slotOf_same act 29 _ (by omega))
        | 1, ho, hD =>
          cases ho
          have e1 := slot_tmps (show slotOf act 1 = .slice la (cansB B).length lc from hF.slot 1 (by kernel_rfl))
          refine rgw_val (wanted_none rfl) (.slice la (cansB B).length lc) (by simp [go_sem, e1]) (BR.refl _) ?_
          exact congrArg (fun v => [v]) (slotOf_same act 30 _ (by omega))
        | 2, ho, hD =>
          cases ho
          have e14 := slot_tmps (show slotOf act 14 = i64 ix from hF.slot 14 (by kernel_rfl))
          refine rgw_val (wanted_none rfl) (i64 ix) (by simp [go_sem, e14]) (BR.refl _) ?_
          exact congrArg (fun v => [v]) (slotOf_same act 31 _ (by omega))
        | 3, ho, hD =>
          cases ho
          have e30 := slot_tmps (List.cons.inj (hD 1 (by decide))).1
          have e31 := slot_tmps (List.cons.inj (hD 2 (by decide))).1
          refine rgw_val (wanted_none rfl) (.pointer (some ⟨lb, ix * 2, none⟩)) (by simp [go_sem, e30, e31, hi111]) (BR.refl _) ?_
          exact congrArg (fun v => [v]) (slotOf_same act 32 _ (by omega))
        | 4, ho, hD =>
          cases ho
          have e32 := slot_tmps (List.cons.inj (hD 3 (by decide))).1
          have hCA := hC3.same (Same.of_below hR)
          have c1 := hCA.fst ix hlt
          have c2 := hCA.snd ix hlt
          rw [Nat.zero_add] at c1 c2
          rw [hfe.out] at c1 c2
          refine rgw_val (wanted_none rfl) (.agg #[i64 p0, i64 p1]) (by simp [go_sem, e32, c1, c2]) (BR.refl _) ?_
          exact congrArg (fun v => [v]) (slotOf_same act 33 _ (by omega))
        | 5, ho, hD =>
          cases ho
          have e3 := slot_tmps (show slotOf act 3 = i64 hr from hF.slot 3 (by kernel_rfl))
          refine rgw_val (wanted_none rfl) (i64 hr) (by simp [go_sem, e3]) (BR.refl _) ?_
          exact congrArg (fun v => [v]) (slotOf_same act 34 _ (by omega))
        | 6, ho, hD =>
          cases ho
          have e29 := slot_tmps (List.cons.inj (hD 0 (by decide))).1
          have e33 := slot_tmps (List.cons.inj (hD 4 (by decide))).1
          have e34 := slot_tmps (List.cons.inj (hD 5 (by decide))).1
          refine rgw_call (wanted_none rfl) 89 #[bookVal B ta tc sa sc, .agg #[i64 p0, i64 p1], i64 hr] (by simp [go_sem, e29, e33, e34]) rfl ?_
          refine (heightsR_v (hB3.below hR) hV h0 h1 hf0 hf1).mono ?_
          rintro e wB ⟨v, rfl, hb, hL⟩
          exact ⟨_, rfl, hb, v, congrArg (fun v => [v]) (slotOf_same act 35 _ (by omega)), hL⟩
        | 7, ho, hD =>
          cases ho
          obtain ⟨v, dv, hL⟩ := hD 6 (by decide)
          have ev := slot_tmps (List.cons.inj dv).1
          refine rgw_val (wanted_none rfl) v (by simp [go_sem, ev]) (BR.refl _) ?_
          exact ⟨v, congrArg (fun v => [v]) (slotOf_same act 15 _ (by omega)), hL⟩
        | _ + 8, ho, _ => cases ho
      · intro act wA hR hF hA
        have f1 : slotOf act 1 = .slice la (cansB B).length lc := hF.slot 1 (by kernel_rfl)
        have f2 : slotOf act 2 = i64 1 := hF.slot 2 (by kernel_rfl)
        have f3 : slotOf act 3 = i64 hr := hF.slot 3 (by kernel_rfl)
        have f4 : slotOf act 4 = i64 ld := hF.slot 4 (by kernel_rfl)
        have f5 : slotOf act 5 = .pointer (some ⟨w.heap.size, 0, none⟩) := hF.slot 5 (by kernel_rfl)
        have f11 : slotOf act 11 = .bool S := hF.slot 11 (by kernel_rfl)
        have f12 : slotOf act 12 = .bool A := hF.slot 12 (by kernel_rfl)
        have f13 : slotOf act 13 = .pointer (some ⟨w.heap.size + 1, 0, none⟩) := hF.slot 13 (by kernel_rfl)
        have f14 : slotOf act 14 = i64 ix := hF.slot 14 (by kernel_rfl)
        obtain ⟨hv, d15, hLv⟩ := hA 7 (by decide)
        obtain ⟨jb, jo, ja, jc, rfl, hjn, hJ⟩ := hLv
        have f15 : slotOf act 15 = .slice ja (hts B hr (p0, p1)).length jc := (List.cons.inj d15).1
        have f29 : slotOf act 29 = .agg (bookCells B ta tc sa sc) := (List.cons.inj (hA 0 (by decide))).1
        have f30 : slotOf act 30 = .slice la (cansB B).length lc := (List.cons.inj (hA 1 (by decide))).1
        have f31 : slotOf act 31 = i64 ix := (List.cons.inj (hA 2 (by decide))).1
        have f32 : slotOf act 32 = .pointer (some ⟨lb, ix * 2, none⟩) := (List.cons.inj (hA 3 (by decide))).1
        have f33 : slotOf act 33 = .agg #[i64 p0, i64 p1] := (List.cons.inj (hA 4 (by decide))).1
        have f34 : slotOf act 34 = i64 hr := (List.cons.inj (hA 5 (by decide))).1
        rw [act_eta act 93 hF.size hF.defers]
        simp only [show List.range 93 = [0, 1, 2, 3, 4, 5, 6, 7, 8, 9, 10, 11, 12, 13, 14, 15, 16, 17, 18, 19, 20, 21, 22, 23, 24, 25, 26, 27, 28, 29, 30, 31, 32, 33, 34, 35, 36, 37, 38, 39, 40, 41, 42, 43, 44, 45, 46, 47, 48, 49, 50, 51, 52, 53, 54, 55, 56, 57, 58, 59, 60, 61, 62, 63, 64, 65, 66, 67, 68, 69, 70, 71, 72, 73, 74, 75, 76, 77, 78, 79, 80, 81, 82, 83, 84, 85, 86, 87, 88, 89, 90, 91, 92] from rfl, List.map_cons, List.map_nil, f1, f2, f3, f4, f5, f11, f12, f13, f14, f15, f29, f30, f31, f32, f33, f34]
        clear hA hF f1 f2 f3 f4 f5 f11 f12 f13 f14 f15 f29 f30 f31 f32 f33 f34
        have hL25 := htsR_len hV h0 h1 (p0, p1)
        have hmh := fun (h : Int) (hm : h ∈ hts B hr (p0, p1)) => htsR_rng hV h0 h1 hm
        obtain ⟨L, hLe⟩ : ∃ L, Hid (hts B hr (p0, p1) = L) := ⟨_, Lib.hid rfl⟩
        rw [hLe.out] at hJ hjn hL25 hmh hiSs hiAs ⊢
        have hb5 := hb3.trans (Below.mono hR hb3.size)
        have hx5 := (Below.block hR _ hxl3).trans hx3
        have hg5 := (Below.block hR _ (Array.getElem?_eq_some_iff.1 hg3).1).trans hg3
        have hC5 := (hC3.same (Same.of_below hR)).up (Below.size hR)
        have hB5 := hB3.below hR
        clear hR hx3 hxl3 hg3 hC3 hB3 hb3
        obtain ⟨W5, hW5⟩ : ∃ W5, wA = W5 := ⟨_, rfl⟩
        rw [hW5] at hJ hb5 hx5 hg5 hC5 hB5 ⊢
        clear hW5
        go_wp2_with fail
        refine wp_loop (LaJR w B la lc 1 hr ld ix ja L.length jc p1 L S A W5) (fun act _ => laM L.length 16 act) ?_ ?_
        · exact ⟨0, _, _, Nat.zero_le _, ⟨⟨rfl, rfl, rfl, rfl, rfl, rfl, rfl, rfl, rfl, rfl, rfl, Below.refl _ _⟩, rfl, rfl⟩, (Bool.or_false _).symm, (Bool.and_true _).symm⟩
        · rintro act W6 ⟨k, S1, A1, hk, ⟨⟨hsz, hdf, s1, s2, s3, s4, s5, s11, s12, s13, s14, hb6⟩, s15, s16⟩, hS1, hA1⟩
          rw [act_eta act 93 hsz hdf]
          simp only [show List.range 93 = [0, 1, 2, 3, 4, 5, 6, 7, 8, 9, 10, 11, 12, 13, 14, 15, 16, 17, 18, 19, 20, 21, 22, 23, 24, 25, 26, 27, 28, 29, 30, 31, 32, 33, 34, 35, 36, 37, 38, 39, 40, 41, 42, 43, 44, 45, 46, 47, 48, 49, 50, 51, 52, 53, 54, 55, 56, 57, 58, 59, 60, 61, 62, 63, 64, 65, 66, 67, 68, 69, 70, 71, 72, 73, 74, 75, 76, 77, 78, 79, 80, 81, 82, 83, 84, 85, 86, 87, 88, 89, 90, 91, 92] from rfl, List.map_cons, List.map_nil, s1, s2, s3, s4, s5, s11, s12, s13, s14, s15, s16]
          replace hS1 := Lib.hid hS1
          replace hA1 := Lib.hid hA1
          clear s1 s2 s3 s4 s5 s11 s12 s13 s14 s15 s16
          by_cases hkl : k < L.length
          · have hkl' : (k : Int) < (L.length : Int) := by omega
            have hx6 := (hb6.block _ (Array.getElem?_eq_some_iff.1 hx5).1).trans hx5
            have hxc := cells_of hx6
            have hxl := (Array.getElem?_eq_some_iff.1 hx6).1
            have hi40 := fun W => idx40 (n := L.length) (c := jc) (k := k) W (hJ.at_ (ne_nil_of_lt hkl)) hkl
            obtain ⟨h, hhe⟩ : ∃ h, Hid (L[k] = h) := ⟨_, Lib.hid rfl⟩
            have hhr := hmh h (hhe.out ▸ List.getElem_mem hkl)
            have hkSs := kS_succ B 1 ld p1 L k hkl
            have hkAs := kA_succ B 1 ld p1 L k hkl
            rw [hhe.out, ← eS_all hV] at hkSs
            rw [hhe.out, ← eA_all hV] at hkAs
            replace hkSs := Lib.hid hkSs
            replace hkAs := Lib.hid hkAs
            go_wp2_with fail
            refine wp_loop (LaKR w B la lc 1 hr ld ix ja L.length jc k h p1 S1 A1 W5) (fun act _ => laE B act) ?_ ?_
            · exact ⟨0, _, _, Nat.zero_le _, ⟨⟨⟨rfl, rfl, rfl, rfl, rfl, rfl, rfl, rfl, rfl, rfl, rfl, hb6⟩, rfl, rfl⟩, congrArg (Value.int .i64) (show B.el = B.el + ((0 : Nat) : Int) by omega)⟩, (Bool.or_false _).symm, (Bool.and_true _).symm⟩
            · clear hx6 hxc hxl hb6
              rintro act W9 ⟨m, S, A, hm, ⟨⟨⟨hsz, hdf, s1, s2, s3, s4, s5, s11, s12, s13, s14, hb9⟩, s15, s16⟩, s17⟩, hS, hA⟩
              rw [act_eta act 93 hsz hdf]
              simp only [show List.range 93 = [0, 1, 2, 3, 4, 5, 6, 7, 8, 9, 10, 11, 12, 13, 14, 15, 16, 17, 18, 19, 20, 21, 22, 23, 24, 25, 26, 27, 28, 29, 30, 31, 32, 33, 34, 35, 36, 37, 38, 39, 40, 41, 42, 43, 44, 45, 46, 47, 48, 49, 50, 51, 52, 53, 54, 55, 56, 57, 58, 59, 60, 61, 62, 63, 64, 65, 66, 67, 68, 69, 70, 71, 72, 73, 74, 75, 76, 77, 78, 79, 80, 81, 82, 83, 84, 85, 86, 87, 88, 89, 90, 91, 92] from rfl, List.map_cons, List.map_nil, s1, s2, s3, s4, s5, s11, s12, s13, s14, s15, s16, s17]
              replace hS := Lib.hid hS
              replace hA := Lib.hid hA
              clear s1 s2 s3 s4 s5 s11 s12 s13 s14 s15 s16 s17
              have hx9 := (hb9.block _ (Array.getElem?_eq_some_iff.1 hx5).1).trans hx5
              have hxl9 := (Array.getElem?_eq_some_iff.1 hx9).1
              have hxc := cells_of hx9
              obtain ⟨E, hE⟩ : ∃ E, Hid (B.el + (m : Int) = E) := ⟨_, Lib.hid rfl⟩
              have hEm := hE.out
              rw [hEm]
              replace hEm := Lib.hid hEm
              by_cases hml : m < (B.eh - B.el + 1).toNat
              · have hEle : E ≤ B.eh := by have := hE.out; omega
                have hE0 : 0 ≤ E := by have := hE.out; omega
                have hEle' : decide (E ≤ B.eh) = true := decide_eq_true hEle
                have hg9 := (hb9.block _ (Array.getElem?_eq_some_iff.1 hg5).1).trans hg5
                have hgl9 := (Array.getElem?_eq_some_iff.1 hg9).1
                have hC9 := (hC5.same (Same.of_below hb9)).up hb9.size
                have hJ9 := hJ.same (Same.of_below hb9)
                have hw1 : IntKind.i64.wrap (h - p1) = h - p1 := wrap_fit (by omega) (by omega)
                have hw2 : IntKind.i64.wrap (E + Q) = E + Q := wrap_fit (by omega) (by omega)
                have hw3 : IntKind.i64.wrap (E + Q + B.under) = E + Q + B.under := wrap_fit (by omega) (by omega)
                have hw4 : IntKind.i64.wrap (E + 1) = E + 1 := wrap_fit (by omega) (by omega)
                have hf : decide (h - p1 ≥ E + Q + B.under) = false → Hid (landsB B 1 ld h p1 (B.el + (m : Int)) = false) := fun hd => Lib.hid (by
                  have h3 : decide (h - p1 ≥ B.el + (m : Int) + (ld + B.sink - 1) / B.sink + B.under) = false := by
                    have h4 : (ld + B.sink - 1) / B.sink = Q := hQ.out
                    rw [h4, hE.out]
                    exact hd
                  unfold landsB
                  rw [h3]
                  rfl)
                have ht : decide (h - p1 ≥ E + Q + B.under) = true → Hid (landsB B 1 ld h p1 (B.el + (m : Int)) = inB h B.s1.lo B.s1.hi) := fun hd => Lib.hid (by
                  have h3 : decide (h - p1 ≥ B.el + (m : Int) + (ld + B.sink - 1) / B.sink + B.under) = true := by
                    have h4 : (ld + B.sink - 1) / B.sink = Q := hQ.out
                    rw [h4, hE.out]
                    exact hd
                  unfold landsB
                  rw [h3]
                  rfl)
                cases hc : decide (h - p1 ≥ E + Q + B.under)
                · go_wp2_with fail
                  refine rg_region rdLa13s1f pureLa13s1f (gLa13s1f w B ta tc sa sc la lc lb ix ld p1 ja L.length jc jb jo k h E Q) BR (by kernel_rfl) (by kernel_rfl) (fun n => BR.drawn _ n) BR.refl (fun _ _ _ => BR.trans) ?_ ?_ ?_
                  · intro i hi vs wA wB hG hR
                    match i, hi, hG with
                    | 0, _, hG => exact hG
                    | 1, _, hG => exact hG
                    | 2, _, hG => exact hG
                    | 3, _, hG => exact hG
                    | 4, _, hG => exact hG
                    | 5, _, hG => exact hG
                    | 6, _, hG => exact hG
                    | 7, _, hG => exact hG
                    | 8, _, hG => exact hG
                    | 9, _, hG => exact hG
                    | 10, _, hG => exact hG
                    | 11, _, hG => exact hG
                    | 12, _, hG => exact hG
                    | 13, _, hG => exact hG
                    | 14, _, hG => exact hG
                    | 15, _, hG => exact hG
                    | 16, _, hG => exact hG
                    | 17, _, hG => exact hG
                    | 18, _, hG => exact hG
                    | 19, _, hG => exact hG
                    | 20, _, hG => exact hG
                    | 21, _, _ => trivial
                    | 22, _, _ => trivial
                    | 23, _, _ => trivial
                    | 24, _, _ => trivial
                    | 25, _, _ => trivial
                    | 26, _, _ => trivial
                    | 27, _, _ => trivial
                    | 28, _, _ => trivial
                    | 29, _, _ => trivial
                    | 30, _, hG => exact hG
                    | 31, _, hG => exact hG
                    | _ + 32, _, _ => trivial
                  · intro i op ho act wA hR hF hD
                    have sz : act.tmps.size = 93 := hF.size
                    match i, ho, hD with
                    | 0, ho, hD =>
                      cases ho
                      have e15 := slot_tmps (show slotOf act 15 = .slice ja L.length jc from hF.slot 15 (by kernel_rfl))
                      refine rgw_val (wanted_none rfl) (.slice ja L.length jc) (by simp [go_sem, e15]) (BR.refl _) ?_
                      exact congrArg (fun v => [v]) (slotOf_same act 52 _ (by omega))
                    | 1, ho, hD =>
                      cases ho
                      have e16 := slot_tmps (show slotOf act 16 = i64 k from hF.slot 16 (by kernel_rfl))
                      refine rgw_val (wanted_none rfl) (i64 k) (by simp [go_sem, e16]) (BR.refl _) ?_
                      exact congrArg (fun v => [v]) (slotOf_same act 53 _ (by omega))
                    | 2, ho, hD =>
                      cases ho
                      have e52 := slot_tmps (List.cons.inj (hD 0 (by decide))).1
                      have e53 := slot_tmps (List.cons.inj (hD 1 (by decide))).1
                      refine rgw_val (wanted_none rfl) (.pointer (some ⟨jb, jo + k, none⟩)) (by simp [go_sem, e52, e53, hi40]) (BR.refl _) ?_
                      exact congrArg (fun v => [v]) (slotOf_same act 54 _ (by omega))
                    | 3, ho, hD =>
                      cases ho
                      have e54 := slot_tmps (List.cons.inj (hD 2 (by decide))).1
                      have hJA := hJ9.same (Same.of_below (Below.mono hR hb9.size))
                      have hjc := hJA.cell k hkl
                      rw [hhe.out] at hjc
                      refine rgw_val (wanted_none rfl) (i64 h) (by simp [go_sem, e54, hjc]) (BR.refl _) ?_
                      exact congrArg (fun v => [v]) (slotOf_same act 55 _ (by omega))
                    | 4, ho, hD =>
                      cases ho
                      have e1 := slot_tmps (show slotOf act 1 = .slice la (cansB B).length lc from hF.slot 1 (by kernel_rfl))
                      refine rgw_val (wanted_none rfl) (.slice la (cansB B).length lc) (by simp [go_sem, e1]) (BR.refl _) ?_
                      exact congrArg (fun v => [v]) (slotOf_same act 56 _ (by omega))
                    | 5, ho, hD =>
                      cases ho
                      have e14 := slot_tmps (show slotOf act 14 = i64 ix from hF.slot 14 (by kernel_rfl))
                      refine rgw_val (wanted_none rfl) (i64 ix) (by simp [go_sem, e14]) (BR.refl _) ?_
                      exact congrArg (fun v => [v]) (slotOf_same act 57 _ (by omega))
                    | 6, ho, hD =>
                      cases ho
                      have e2 := slot_tmps (show slotOf act 2 = i64 1 from hF.slot 2 (by kernel_rfl))
                      refine rgw_val (wanted_none rfl) (i64 1) (by simp [go_sem, e2]) (BR.refl _) ?_
                      exact congrArg (fun v => [v]) (slotOf_same act 58 _ (by omega))
                    | 7, ho, hD =>
                      cases ho
                      have e56 := slot_tmps (List.cons.inj (hD 4 (by decide))).1
                      have e57 := slot_tmps (List.cons.inj (hD 5 (by decide))).1
                      refine rgw_val (wanted_none rfl) (.pointer (some ⟨lb, ix * 2, none⟩)) (by simp [go_sem, e56, e57, hi111]) (BR.refl _) ?_
                      exact congrArg (fun v => [v]) (slotOf_same act 59 _ (by omega))
                    | 8, ho, hD =>
                      cases ho
                      have e58 := slot_tmps (List.cons.inj (hD 6 (by decide))).1
                      have e59 := slot_tmps (List.cons.inj (hD 7 (by decide))).1
                      refine rgw_val (wanted_none rfl) (.pointer (some ⟨lb, ix * 2 + 1, none⟩)) (by simp [go_sem, e58, e59]) (BR.refl _) ?_
                      exact congrArg (fun v => [v]) (slotOf_same act 60 _ (by omega))
                    | 9, ho, hD =>
                      cases ho
                      have e60 := slot_tmps (List.cons.inj (hD 8 (by decide))).1
                      have hCA := hC9.same (Same.of_below hR)
                      have c1 := hCA.fst ix hlt
                      have c2 := hCA.snd ix hlt
                      rw [Nat.zero_add] at c1 c2
                      rw [hfe.out] at c1 c2
                      refine rgw_val (wanted_none rfl) (i64 p1) (by simp [go_sem, e60, c2]) (BR.refl _) ?_
                      exact congrArg (fun v => [v]) (slotOf_same act 61 _ (by omega))
                    | 10, ho, hD =>
                      cases ho
                      have e55 := slot_tmps (List.cons.inj (hD 3 (by decide))).1
                      have e61 := slot_tmps (List.cons.inj (hD 9 (by decide))).1
                      refine rgw_val (wanted_none rfl) (i64 (h - p1)) (by simp [go_sem, e55, e61, hw1]) (BR.refl _) ?_
                      exact congrArg (fun v => [v]) (slotOf_same act 62 _ (by omega))
                    | 11, ho, hD =>
                      cases ho
                      have e17 := slot_tmps (show slotOf act 17 = i64 E from hF.slot 17 (by kernel_rfl))
                      refine rgw_val (wanted_none rfl) (i64 E) (by simp [go_sem, e17]) (BR.refl _) ?_
                      exact congrArg (fun v => [v]) (slotOf_same act 63 _ (by omega))
                    | 12, ho, hD =>
                      cases ho
                      have e5 := slot_tmps (show slotOf act 5 = .pointer (some ⟨w.heap.size, 0, none⟩) from hF.slot 5 (by kernel_rfl))
                      refine rgw_val (wanted_none rfl) (.agg (bookCells B ta tc sa sc)) (by exact ex_load_row (a := act) 30 (.tmp 5) rfl w.heap.size (show slotOf act 5 = .pointer (some ⟨w.heap.size, 0, none⟩) from hF.slot 5 (by kernel_rfl)) 30 _ (0, 0) _ ((Below.block hR _ hxl9).trans hx9) Tryd.underlying30 rfl (by rw [size30]; rfl)) (BR.refl _) ?_
                      exact congrArg (fun v => [v]) (slotOf_same act 64 _ (by omega))
                    | 13, ho, hD =>
                      cases ho
                      have e4 := slot_tmps (show slotOf act 4 = i64 ld from hF.slot 4 (by kernel_rfl))
                      refine rgw_val (wanted_none rfl) (i64 ld) (by simp [go_sem, e4]) (BR.refl _) ?_
                      exact congrArg (fun v => [v]) (slotOf_same act 65 _ (by omega))
                    | 14, ho, hD =>
                      cases ho
                      have e64 := slot_tmps (List.cons.inj (hD 12 (by decide))).1
                      have e65 := slot_tmps (List.cons.inj (hD 13 (by decide))).1
                      refine rgw_call (wanted_none rfl) 104 #[bookVal B ta tc sa sc, i64 ld] (by simp [go_sem, e64, e65]) rfl ?_
                      refine (sinks_any B ta tc sa sc ld _ hk1 hk2 l0 l1).mono ?_
                      rintro e wB ⟨rfl, hb⟩
                      rw [hQ.out]
                      exact ⟨_, rfl, hb, congrArg (fun v => [v]) (slotOf_same act 66 _ (by omega))⟩
                    | 15, ho, hD =>
                      cases ho
                      have e63 := slot_tmps (List.cons.inj (hD 11 (by decide))).1
                      have e66 := slot_tmps (List.cons.inj (hD 14 (by decide))).1
                      refine rgw_val (wanted_none rfl) (i64 (E + Q)) (by simp [go_sem, e63, e66, hw2]) (BR.refl _) ?_
                      exact congrArg (fun v => [v]) (slotOf_same act 67 _ (by omega))
                    | 16, ho, hD =>
                      cases ho
                      have e5 := slot_tmps (show slotOf act 5 = .pointer (some ⟨w.heap.size, 0, none⟩) from hF.slot 5 (by kernel_rfl))
                      refine rgw_val (wanted_none rfl) (.pointer (some ⟨w.heap.size, 12, none⟩)) (by simp [go_sem, e5]) (BR.refl _) ?_
                      exact congrArg (fun v => [v]) (slotOf_same act 68 _ (by omega))
                    | 17, ho, hD =>
                      cases ho
                      have e68 := slot_tmps (List.cons.inj (hD 16 (by decide))).1
                      have hxA := (Below.block hR _ hxl9).trans hx9
                      have hxc := cells_of hxA
                      refine rgw_val (wanted_none rfl) (i64 B.under) (by simp [go_sem, e68, hxc]) (BR.refl _) ?_
                      exact congrArg (fun v => [v]) (slotOf_same act 69 _ (by omega))
                    | 18, ho, hD =>
                      cases ho
                      have e67 := slot_tmps (List.cons.inj (hD 15 (by decide))).1
                      have e69 := slot_tmps (List.cons.inj (hD 17 (by decide))).1
                      refine rgw_val (wanted_none rfl) (i64 (E + Q + B.under)) (by simp [go_sem, e67, e69, hw3]) (BR.refl _) ?_
                      exact congrArg (fun v => [v]) (slotOf_same act 70 _ (by omega))
                    | 19, ho, hD =>
                      cases ho
                      have e62 := slot_tmps (List.cons.inj (hD 10 (by decide))).1
                      have e70 := slot_tmps (List.cons.inj (hD 18 (by decide))).1
                      refine rgw_val (wanted_none rfl) (.bool false) (by simp [go_sem, e62, e70, hc]) (BR.refl _) ?_
                      exact congrArg (fun v => [v]) (slotOf_same act 71 _ (by omega))
                    | 20, ho, hD =>
                      cases ho
                      have e71 := slot_tmps (List.cons.inj (hD 19 (by decide))).1
                      refine rgw_val (wanted_none rfl) (.bool false) (by simp [go_sem, e71]) (BR.refl _) ?_
                      exact congrArg (fun v => [v]) (slotOf_same act 72 _ (by omega))
                    | 21, ho, hD =>
                      cases ho
                      have dj : slotOf act 72 = .bool false := (List.cons.inj (hD 20 (by decide))).1
                      refine rgw_skip (by rw [wanted_of (d := 72) rfl rfl dj]; rfl) ?_
                      trivial
                    | 22, ho, hD =>
                      cases ho
                      have dj : slotOf act 72 = .bool false := (List.cons.inj (hD 20 (by decide))).1
                      refine rgw_skip (by rw [wanted_of (d := 72) rfl rfl dj]; rfl) ?_
                      trivial
                    | 23, ho, hD =>
                      cases ho
                      have dj : slotOf act 72 = .bool false := (List.cons.inj (hD 20 (by decide))).1
                      refine rgw_skip (by rw [wanted_of (d := 72) rfl rfl dj]; rfl) ?_
                      trivial
                    | 24, ho, hD =>
                      cases ho
                      have dj : slotOf act 72 = .bool false := (List.cons.inj (hD 20 (by decide))).1
                      refine rgw_skip (by rw [wanted_of (d := 72) rfl rfl dj]; rfl) ?_
                      trivial
                    | 25, ho, hD =>
                      cases ho
                      have dj : slotOf act 72 = .bool false := (List.cons.inj (hD 20 (by decide))).1
                      refine rgw_skip (by rw [wanted_of (d := 72) rfl rfl dj]; rfl) ?_
                      trivial
                    | 26, ho, hD =>
                      cases ho
                      have dj : slotOf act 72 = .bool false := (List.cons.inj (hD 20 (by decide))).1
                      refine rgw_skip (by rw [wanted_of (d := 72) rfl rfl dj]; rfl) ?_
                      trivial
                    | 27, ho, hD =>
                      cases ho
                      have dj : slotOf act 72 = .bool false := (List.cons.inj (hD 20 (by decide))).1
                      refine rgw_skip (by rw [wanted_of (d := 72) rfl rfl dj]; rfl) ?_
                      trivial
                    | 28, ho, hD =>
                      cases ho
                      have dj : slotOf act 72 = .bool false := (List.cons.inj (hD 20 (by decide))).1
                      refine rgw_skip (by rw [wanted_of (d := 72) rfl rfl dj]; rfl) ?_
                      trivial
                    | 29, ho, hD =>
                      cases ho
                      have dj : slotOf act 72 = .bool false := (List.cons.inj (hD 20 (by decide))).1
                      refine rgw_skip (by rw [wanted_of (d := 72) rfl rfl dj]; rfl) ?_
                      trivial
                    | 30, ho, hD =>
                      cases ho
                      have e72 := slot_tmps (List.cons.inj (hD 20 (by decide))).1
                      refine rgw_val (wanted_none rfl) (.bool false) (by simp [go_sem, e72]) (BR.refl _) ?_
                      exact congrArg (fun v => [v]) (slotOf_same act 82 _ (by omega))
                    | 31, ho, hD =>
                      cases ho
                      have e82 := slot_tmps (List.cons.inj (hD 30 (by decide))).1
                      refine rgw_val (wanted_none rfl) (.bool false) (by simp [go_sem, e82]) (BR.refl _) ?_
                      exact congrArg (fun v => [v]) (slotOf_same act 18 _ (by omega))
                    | _ + 32, ho, _ => cases ho
                  · intro act wA hR hF hA
                    have f1 : slotOf act 1 = .slice la (cansB B).length lc := hF.slot 1 (by kernel_rfl)
                    have f2 : slotOf act 2 = i64 1 := hF.slot 2 (by kernel_rfl)
                    have f3 : slotOf act 3 = i64 hr := hF.slot 3 (by kernel_rfl)
                    have f4 : slotOf act 4 = i64 ld := hF.slot 4 (by kernel_rfl)
                    have f5 : slotOf act 5 = .pointer (some ⟨w.heap.size, 0, none⟩) := hF.slot 5 (by kernel_rfl)
                    have f11 : slotOf act 11 = .bool S := hF.slot 11 (by kernel_rfl)
                    have f12 : slotOf act 12 = .bool A := hF.slot 12 (by kernel_rfl)
                    have f13 : slotOf act 13 = .pointer (some ⟨w.heap.size + 1, 0, none⟩) := hF.slot 13 (by kernel_rfl)
                    have f14 : slotOf act 14 = i64 ix := hF.slot 14 (by kernel_rfl)
                    have f15 : slotOf act 15 = .slice ja L.length jc := hF.slot 15 (by kernel_rfl)
                    have f16 : slotOf act 16 = i64 k := hF.slot 16 (by kernel_rfl)
                    have f17 : slotOf act 17 = i64 E := hF.slot 17 (by kernel_rfl)
                    have f18 : slotOf act 18 = .bool false := (List.cons.inj (hA 31 (by decide))).1
                    have f52 : slotOf act 52 = .slice ja L.length jc := (List.cons.inj (hA 0 (by decide))).1
                    have f53 : slotOf act 53 = i64 k := (List.cons.inj (hA 1 (by decide))).1
                    have f54 : slotOf act 54 = .pointer (some ⟨jb, jo + k, none⟩) := (List.cons.inj (hA 2 (by decide))).1
                    have f55 : slotOf act 55 = i64 h := (List.cons.inj (hA 3 (by decide))).1
                    have f56 : slotOf act 56 = .slice la (cansB B).length lc := (List.cons.inj (hA 4 (by decide))).1
                    have f57 : slotOf act 57 = i64 ix := (List.cons.inj (hA 5 (by decide))).1
                    have f58 : slotOf act 58 = i64 1 := (List.cons.inj (hA 6 (by decide))).1
                    have f59 : slotOf act 59 = .pointer (some ⟨lb, ix * 2, none⟩) := (List.cons.inj (hA 7 (by decide))).1
                    have f60 : slotOf act 60 = .pointer (some ⟨lb, ix * 2 + 1, none⟩) := (List.cons.inj (hA 8 (by decide))).1
                    have f61 : slotOf act 61 = i64 p1 := (List.cons.inj (hA 9 (by decide))).1
                    have f62 : slotOf act 62 = i64 (h - p1) := (List.cons.inj (hA 10 (by decide))).1
                    have f63 : slotOf act 63 = i64 E := (List.cons.inj (hA 11 (by decide))).1
                    have f64 : slotOf act 64 = .agg (bookCells B ta tc sa sc) := (List.cons.inj (hA 12 (by decide))).1
                    have f65 : slotOf act 65 = i64 ld := (List.cons.inj (hA 13 (by decide))).1
                    have f66 : slotOf act 66 = i64 Q := (List.cons.inj (hA 14 (by decide))).1
                    have f67 : slotOf act 67 = i64 (E + Q) := (List.cons.inj (hA 15 (by decide))).1
                    have f68 : slotOf act 68 = .pointer (some ⟨w.heap.size, 12, none⟩) := (List.cons.inj (hA 16 (by decide))).1
                    have f69 : slotOf act 69 = i64 B.under := (List.cons.inj (hA 17 (by decide))).1
                    have f70 : slotOf act 70 = i64 (E + Q + B.under) := (List.cons.inj (hA 18 (by decide))).1
                    have f71 : slotOf act 71 = .bool false := (List.cons.inj (hA 19 (by decide))).1
                    have f72 : slotOf act 72 = .bool false := (List.cons.inj (hA 20 (by decide))).1
                    have f82 : slotOf act 82 = .bool false := (List.cons.inj (hA 30 (by decide))).1
                    rw [act_eta act 93 hF.size hF.defers]
                    simp only [show List.range 93 = [0, 1, 2, 3, 4, 5, 6, 7, 8, 9, 10, 11, 12, 13, 14, 15, 16, 17, 18, 19, 20, 21, 22, 23, 24, 25, 26, 27, 28, 29, 30, 31, 32, 33, 34, 35, 36, 37, 38, 39, 40, 41, 42, 43, 44, 45, 46, 47, 48, 49, 50, 51, 52, 53, 54, 55, 56, 57, 58, 59, 60, 61, 62, 63, 64, 65, 66, 67, 68, 69, 70, 71, 72, 73, 74, 75, 76, 77, 78, 79, 80, 81, 82, 83, 84, 85, 86, 87, 88, 89, 90, 91, 92] from rfl, List.map_cons, List.map_nil, f1, f2, f3, f4, f5, f11, f12, f13, f14, f15, f16, f17, f18, f52, f53, f54, f55, f56, f57, f58, f59, f60, f61, f62, f63, f64, f65, f66, f67, f68, f69, f70, f71, f72, f82]
                    clear hA hF f1 f2 f3 f4 f5 f11 f12 f13 f14 f15 f16 f17 f18 f52 f53 f54 f55 f56 f57 f58 f59 f60 f61 f62 f63 f64 f65 f66 f67 f68 f69 f70 f71 f72 f82
                    have hb10 := hb9.trans (Below.mono hR hb9.size)
                    have hsS := eS_succ B 1 ld h p1 m
                    have hsA := eA_succ B 1 ld h p1 m
                    rw [(hf hc).out] at hsS hsA
                    replace hsS := Lib.hid hsS
                    replace hsA := Lib.hid hsA
                    clear hR
                    cases S <;> cases A <;> (
                      go_wp2_with fail
                      refine ⟨⟨m + 1, _, _, by omega, ⟨⟨⟨rfl, rfl, rfl, rfl, rfl, rfl, rfl, rfl, rfl, rfl, rfl, hb10⟩, rfl, rfl⟩, congrArg (Value.int .i64) (by have := hE.out; omega)⟩, flagS hS.out hsS.out rfl, flagA hA.out hsA.out rfl⟩, laE_lt hEle rfl rfl⟩)
                · go_wp2_with fail
                  refine rg_region rdLa13s1t pureLa13s1t (gLa13s1t w B ta tc sa sc la lc lb ix ld p1 ja L.length jc jb jo k h E Q) BR (by kernel_rfl) (by kernel_rfl) (fun n => BR.drawn _ n) BR.refl (fun _ _ _ => BR.trans) ?_ ?_ ?_
                  · intro i hi vs wA wB hG hR
                    match i, hi, hG with
                    | 0, _, hG => exact hG
                    | 1, _, hG => exact hG
                    | 2, _, hG => exact hG
                    | 3, _, hG => exact hG
                    | 4, _, hG => exact hG
                    | 5, _, hG => exact hG
                    | 6, _, hG => exact hG
                    | 7, _, hG => exact hG
                    | 8, _, hG => exact hG
                    | 9, _, hG => exact hG
                    | 10, _, hG => exact hG
                    | 11, _, hG => exact hG
                    | 12, _, hG => exact hG
                    | 13, _, hG => exact hG
                    | 14, _, hG => exact hG
                    | 15, _, hG => exact hG
                    | 16, _, hG => exact hG
                    | 17, _, hG => exact hG
                    | 18, _, hG => exact hG
                    | 19, _, hG => exact hG
                    | 20, _, hG => exact hG
                    | 21, _, hG => exact hG
                    | 22, _, hG => exact hG
                    | 23, _, hG => exact hG
                    | 24, _, hG => exact hG
                    | 25, _, hG => exact hG
                    | 26, _, hG => exact hG
                    | 27, _, hG => exact hG
                    | 28, _, hG => exact hG
                    | 29, _, hG => exact hG
                    | 30, _, hG => exact hG
                    | 31, _, hG => exact hG
                    | _ + 32, _, _ => trivial
                  · intro i op ho act wA hR hF hD
                    have sz : act.tmps.size = 93 := hF.size
                    match i, ho, hD with
                    | 0, ho, hD =>
                      cases ho
                      have e15 := slot_tmps (show slotOf act 15 = .slice ja L.length jc from hF.slot 15 (by kernel_rfl))
                      refine rgw_val (wanted_none rfl) (.slice ja L.length jc) (by simp [go_sem, e15]) (BR.refl _) ?_
                      exact congrArg (fun v => [v]) (slotOf_same act 52 _ (by omega))
                    | 1, ho, hD =>
                      cases ho
                      have e16 := slot_tmps (show slotOf act 16 = i64 k from hF.slot 16 (by kernel_rfl))
                      refine rgw_val (wanted_none rfl) (i64 k) (by simp [go_sem, e16]) (BR.refl _) ?_
                      exact congrArg (fun v => [v]) (slotOf_same act 53 _ (by omega))
                    | 2, ho, hD =>
                      cases ho
                      have e52 := slot_tmps (List.cons.inj (hD 0 (by decide))).1
                      have e53 := slot_tmps (List.cons.inj (hD 1 (by decide))).1
                      refine rgw_val (wanted_none rfl) (.pointer (some ⟨jb, jo + k, none⟩)) (by simp [go_sem, e52, e53, hi40]) (BR.refl _) ?_
                      exact congrArg (fun v => [v]) (slotOf_same act 54 _ (by omega))
                    | 3, ho, hD =>
                      cases ho
                      have e54 := slot_tmps (List.cons.inj (hD 2 (by decide))).1
                      have hJA := hJ9.same (Same.of_below (Below.mono hR hb9.size))
                      have hjc := hJA.cell k hkl
                      rw [hhe.out] at hjc
                      refine rgw_val (wanted_none rfl) (i64 h) (by simp [go_sem, e54, hjc]) (BR.refl _) ?_
                      exact congrArg (fun v => [v]) (slotOf_same act 55 _ (by omega))
                    | 4, ho, hD =>
                      cases ho
                      have e1 := slot_tmps (show slotOf act 1 = .slice la (cansB B).length lc from hF.slot 1 (by kernel_rfl))
                      refine rgw_val (wanted_none rfl) (.slice la (cansB B).length lc) (by simp [go_sem, e1]) (BR.refl _) ?_
                      exact congrArg (fun v => [v]) (slotOf_same act 56 _ (by omega))
                    | 5, ho, hD =>
                      cases ho
                      have e14 := slot_tmps (show slotOf act 14 = i64 ix from hF.slot 14 (by kernel_rfl))
                      refine rgw_val (wanted_none rfl) (i64 ix) (by simp [go_sem, e14]) (BR.refl _) ?_
                      exact congrArg (fun v => [v]) (slotOf_same act 57 _ (by omega))
                    | 6, ho, hD =>
                      cases ho
                      have e2 := slot_tmps (show slotOf act 2 = i64 1 from hF.slot 2 (by kernel_rfl))
                      refine rgw_val (wanted_none rfl) (i64 1) (by simp [go_sem, e2]) (BR.refl _) ?_
                      exact congrArg (fun v => [v]) (slotOf_same act 58 _ (by omega))
                    | 7, ho, hD =>
                      cases ho
                      have e56 := slot_tmps (List.cons.inj (hD 4 (by decide))).1
                      have e57 := slot_tmps (List.cons.inj (hD 5 (by decide))).1
                      refine rgw_val (wanted_none rfl) (.pointer (some ⟨lb, ix * 2, none⟩)) (by simp [go_sem, e56, e57, hi111]) (BR.refl _) ?_
                      exact congrArg (fun v => [v]) (slotOf_same act 59 _ (by omega))
                    | 8, ho, hD =>
                      cases ho
                      have e58 := slot_tmps (List.cons.inj (hD 6 (by decide))).1
                      have e59 := slot_tmps (List.cons.inj (hD 7 (by decide))).1
                      refine rgw_val (wanted_none rfl) (.pointer (some ⟨lb, ix * 2 + 1, none⟩)) (by simp [go_sem, e58, e59]) (BR.refl _) ?_
                      exact congrArg (fun v => [v]) (slotOf_same act 60 _ (by omega))
                    | 9, ho, hD =>
                      cases ho
                      have e60 := slot_tmps (List.cons.inj (hD 8 (by decide))).1
                      have hCA := hC9.same (Same.of_below hR)
                      have c1 := hCA.fst ix hlt
                      have c2 := hCA.snd ix hlt
                      rw [Nat.zero_add] at c1 c2
                      rw [hfe.out] at c1 c2
                      refine rgw_val (wanted_none rfl) (i64 p1) (by simp [go_sem, e60, c2]) (BR.refl _) ?_
                      exact congrArg (fun v => [v]) (slotOf_same act 61 _ (by omega))
                    | 10, ho, hD =>
                      cases ho
                      have e55 := slot_tmps (List.cons.inj (hD 3 (by decide))).1
                      have e61 := slot_tmps (List.cons.inj (hD 9 (by decide))).1
                      refine rgw_val (wanted_none rfl) (i64 (h - p1)) (by simp [go_sem, e55, e61, hw1]) (BR.refl _) ?_
                      exact congrArg (fun v => [v]) (slotOf_same act 62 _ (by omega))
                    | 11, ho, hD =>
                      cases ho
                      have e17 := slot_tmps (show slotOf act 17 = i64 E from hF.slot 17 (by kernel_rfl))
                      refine rgw_val (wanted_none rfl) (i64 E) (by simp [go_sem, e17]) (BR.refl _) ?_
                      exact congrArg (fun v => [v]) (slotOf_same act 63 _ (by omega))
                    | 12, ho, hD =>
                      cases ho
                      have e5 := slot_tmps (show slotOf act 5 = .pointer (some ⟨w.heap.size, 0, none⟩) from hF.slot 5 (by kernel_rfl))
                      refine rgw_val (wanted_none rfl) (.agg (bookCells B ta tc sa sc)) (by exact ex_load_row (a := act) 30 (.tmp 5) rfl w.heap.size (show slotOf act 5 = .pointer (some ⟨w.heap.size, 0, none⟩) from hF.slot 5 (by kernel_rfl)) 30 _ (0, 0) _ ((Below.block hR _ hxl9).trans hx9) Tryd.underlying30 rfl (by rw [size30]; rfl)) (BR.refl _) ?_
                      exact congrArg (fun v => [v]) (slotOf_same act 64 _ (by omega))
                    | 13, ho, hD =>
                      cases ho
                      have e4 := slot_tmps (show slotOf act 4 = i64 ld from hF.slot 4 (by kernel_rfl))
                      refine rgw_val (wanted_none rfl) (i64 ld) (by simp [go_sem, e4]) (BR.refl _) ?_
                      exact congrArg (fun v => [v]) (slotOf_same act 65 _ (by omega))
                    | 14, ho, hD =>
                      cases ho
                      have e64 := slot_tmps (List.cons.inj (hD 12 (by decide))).1
                      have e65 := slot_tmps (List.cons.inj (hD 13 (by decide))).1
                      refine rgw_call (wanted_none rfl) 104 #[bookVal B ta tc sa sc, i64 ld] (by simp [go_sem, e64, e65]) rfl ?_
                      refine (sinks_any B ta tc sa sc ld _ hk1 hk2 l0 l1).mono ?_
                      rintro e wB ⟨rfl, hb⟩
                      rw [hQ.out]
                      exact ⟨_, rfl, hb, congrArg (fun v => [v]) (slotOf_same act 66 _ (by omega))⟩
                    | 15, ho, hD =>
                      cases ho
                      have e63 := slot_tmps (List.cons.inj (hD 11 (by decide))).1
                      have e66 := slot_tmps (List.cons.inj (hD 14 (by decide))).1
                      refine rgw_val (wanted_none rfl) (i64 (E + Q)) (by simp [go_sem, e63, e66, hw2]) (BR.refl _) ?_
                      exact congrArg (fun v => [v]) (slotOf_same act 67 _ (by omega))
                    | 16, ho, hD =>
                      cases ho
                      have e5 := slot_tmps (show slotOf act 5 = .pointer (some ⟨w.heap.size, 0, none⟩) from hF.slot 5 (by kernel_rfl))
                      refine rgw_val (wanted_none rfl) (.pointer (some ⟨w.heap.size, 12, none⟩)) (by simp [go_sem, e5]) (BR.refl _) ?_
                      exact congrArg (fun v => [v]) (slotOf_same act 68 _ (by omega))
                    | 17, ho, hD =>
                      cases ho
                      have e68 := slot_tmps (List.cons.inj (hD 16 (by decide))).1
                      have hxA := (Below.block hR _ hxl9).trans hx9
                      have hxc := cells_of hxA
                      refine rgw_val (wanted_none rfl) (i64 B.under) (by simp [go_sem, e68, hxc]) (BR.refl _) ?_
                      exact congrArg (fun v => [v]) (slotOf_same act 69 _ (by omega))
                    | 18, ho, hD =>
                      cases ho
                      have e67 := slot_tmps (List.cons.inj (hD 15 (by decide))).1
                      have e69 := slot_tmps (List.cons.inj (hD 17 (by decide))).1
                      refine rgw_val (wanted_none rfl) (i64 (E + Q + B.under)) (by simp [go_sem, e67, e69, hw3]) (BR.refl _) ?_
                      exact congrArg (fun v => [v]) (slotOf_same act 70 _ (by omega))
                    | 19, ho, hD =>
                      cases ho
                      have e62 := slot_tmps (List.cons.inj (hD 10 (by decide))).1
                      have e70 := slot_tmps (List.cons.inj (hD 18 (by decide))).1
                      refine rgw_val (wanted_none rfl) (.bool true) (by simp [go_sem, e62, e70, hc]) (BR.refl _) ?_
                      exact congrArg (fun v => [v]) (slotOf_same act 71 _ (by omega))
                    | 20, ho, hD =>
                      cases ho
                      have e71 := slot_tmps (List.cons.inj (hD 19 (by decide))).1
                      refine rgw_val (wanted_none rfl) (.bool true) (by simp [go_sem, e71]) (BR.refl _) ?_
                      exact congrArg (fun v => [v]) (slotOf_same act 72 _ (by omega))
                    | 21, ho, hD =>
                      cases ho
                      have dj : slotOf act 72 = .bool true := (List.cons.inj (hD 20 (by decide))).1
                      have e15 := slot_tmps (show slotOf act 15 = .slice ja L.length jc from hF.slot 15 (by kernel_rfl))
                      refine rgw_val (by rw [wanted_of (d := 72) rfl rfl dj]; rfl) (.slice ja L.length jc) (by simp [go_sem, e15]) (BR.refl _) ?_
                      exact congrArg (fun v => [v]) (slotOf_same act 73 _ (by omega))
                    | 22, ho, hD =>
                      cases ho
                      have dj : slotOf act 72 = .bool true := (List.cons.inj (hD 20 (by decide))).1
                      have e16 := slot_tmps (show slotOf act 16 = i64 k from hF.slot 16 (by kernel_rfl))
                      refine rgw_val (by rw [wanted_of (d := 72) rfl rfl dj]; rfl) (i64 k) (by simp [go_sem, e16]) (BR.refl _) ?_
                      exact congrArg (fun v => [v]) (slotOf_same act 74 _ (by omega))
                    | 23, ho, hD =>
                      cases ho
                      have dj : slotOf act 72 = .bool true := (List.cons.inj (hD 20 (by decide))).1
                      have e73 := slot_tmps (List.cons.inj (hD 21 (by decide))).1
                      have e74 := slot_tmps (List.cons.inj (hD 22 (by decide))).1
                      refine rgw_val (by rw [wanted_of (d := 72) rfl rfl dj]; rfl) (.pointer (some ⟨jb, jo + k, none⟩)) (by simp [go_sem, e73, e74, hi40]) (BR.refl _) ?_
                      exact congrArg (fun v => [v]) (slotOf_same act 75 _ (by omega))
                    | 24, ho, hD =>
                      cases ho
                      have dj : slotOf act 72 = .bool true := (List.cons.inj (hD 20 (by decide))).1
                      have e75 := slot_tmps (List.cons.inj (hD 23 (by decide))).1
                      have hJA := hJ9.same (Same.of_below (Below.mono hR hb9.size))
                      have hjc := hJA.cell k hkl
                      rw [hhe.out] at hjc
                      refine rgw_val (by rw [wanted_of (d := 72) rfl rfl dj]; rfl) (i64 h) (by simp [go_sem, e75, hjc]) (BR.refl _) ?_
                      exact congrArg (fun v => [v]) (slotOf_same act 76 _ (by omega))
                    | 25, ho, hD =>
                      cases ho
                      have dj : slotOf act 72 = .bool true := (List.cons.inj (hD 20 (by decide))).1
                      have e13 := slot_tmps (show slotOf act 13 = .pointer (some ⟨w.heap.size + 1, 0, none⟩) from hF.slot 13 (by kernel_rfl))
                      refine rgw_val (by rw [wanted_of (d := 72) rfl rfl dj]; rfl) (.pointer (some ⟨w.heap.size + 1, 2, none⟩)) (by simp [go_sem, e13]) (BR.refl _) ?_
                      exact congrArg (fun v => [v]) (slotOf_same act 77 _ (by omega))
                    | 26, ho, hD =>
                      cases ho
                      have dj : slotOf act 72 = .bool true := (List.cons.inj (hD 20 (by decide))).1
                      have e77 := slot_tmps (List.cons.inj (hD 25 (by decide))).1
                      have hgA := (Below.block hR _ hgl9).trans hg9
                      have hgc := cells_of hgA
                      refine rgw_val (by rw [wanted_of (d := 72) rfl rfl dj]; rfl) (i64 B.s1.lo) (by simp [go_sem, e77, hgc]) (BR.refl _) ?_
                      exact congrArg (fun v => [v]) (slotOf_same act 78 _ (by omega))
                    | 27, ho, hD =>
                      cases ho
                      have dj : slotOf act 72 = .bool true := (List.cons.inj (hD 20 (by decide))).1
                      have e13 := slot_tmps (show slotOf act 13 = .pointer (some ⟨w.heap.size + 1, 0, none⟩) from hF.slot 13 (by kernel_rfl))
                      refine rgw_val (by rw [wanted_of (d := 72) rfl rfl dj]; rfl) (.pointer (some ⟨w.heap.size + 1, 3, none⟩)) (by simp [go_sem, e13]) (BR.refl _) ?_
                      exact congrArg (fun v => [v]) (slotOf_same act 79 _ (by omega))
                    | 28, ho, hD =>
                      cases ho
                      have dj : slotOf act 72 = .bool true := (List.cons.inj (hD 20 (by decide))).1
                      have e79 := slot_tmps (List.cons.inj (hD 27 (by decide))).1
                      have hgA := (Below.block hR _ hgl9).trans hg9
                      have hgc := cells_of hgA
                      refine rgw_val (by rw [wanted_of (d := 72) rfl rfl dj]; rfl) (i64 B.s1.hi) (by simp [go_sem, e79, hgc]) (BR.refl _) ?_
                      exact congrArg (fun v => [v]) (slotOf_same act 80 _ (by omega))
                    | 29, ho, hD =>
                      cases ho
                      have dj : slotOf act 72 = .bool true := (List.cons.inj (hD 20 (by decide))).1
                      have e76 := slot_tmps (List.cons.inj (hD 24 (by decide))).1
                      have e78 := slot_tmps (List.cons.inj (hD 26 (by decide))).1
                      have e80 := slot_tmps (List.cons.inj (hD 28 (by decide))).1
                      refine rgw_call (by rw [wanted_of (d := 72) rfl rfl dj]; rfl) 31 #[i64 h, i64 B.s1.lo, i64 B.s1.hi] (by simp [go_sem, e76, e78, e80]) rfl ?_
                      refine (inside_any _ _ _ _).mono ?_
                      rintro e wB ⟨rfl, rfl⟩
                      exact ⟨_, rfl, BR.refl _, congrArg (fun v => [v]) (slotOf_same act 81 _ (by omega))⟩
                    | 30, ho, hD =>
                      cases ho
                      have e72 := slot_tmps (List.cons.inj (hD 20 (by decide))).1
                      have e81 := slot_tmps (List.cons.inj (hD 29 (by decide))).1
                      refine rgw_val (wanted_none rfl) (.bool (inB h B.s1.lo B.s1.hi)) (by simp [go_sem, e72, e81]) (BR.refl _) ?_
                      exact congrArg (fun v => [v]) (slotOf_same act 82 _ (by omega))
                    | 31, ho, hD =>
                      cases ho
                      have e82 := slot_tmps (List.cons.inj (hD 30 (by decide))).1
                      refine rgw_val (wanted_none rfl) (.bool (inB h B.s1.lo B.s1.hi)) (by simp [go_sem, e82]) (BR.refl _) ?_
                      exact congrArg (fun v => [v]) (slotOf_same act 18 _ (by omega))
                    | _ + 32, ho, _ => cases ho
                  · intro act wA hR hF hA
                    have f1 : slotOf act 1 = .slice la (cansB B).length lc := hF.slot 1 (by kernel_rfl)
                    have f2 : slotOf act 2 = i64 1 := hF.slot 2 (by kernel_rfl)
                    have f3 : slotOf act 3 = i64 hr := hF.slot 3 (by kernel_rfl)
                    have f4 : slotOf act 4 = i64 ld := hF.slot 4 (by kernel_rfl)
                    have f5 : slotOf act 5 = .pointer (some ⟨w.heap.size, 0, none⟩) := hF.slot 5 (by kernel_rfl)
                    have f11 : slotOf act 11 = .bool S := hF.slot 11 (by kernel_rfl)
                    have f12 : slotOf act 12 = .bool A := hF.slot 12 (by kernel_rfl)
                    have f13 : slotOf act 13 = .pointer (some ⟨w.heap.size + 1, 0, none⟩) := hF.slot 13 (by kernel_rfl)
                    have f14 : slotOf act 14 = i64 ix := hF.slot 14 (by kernel_rfl)
                    have f15 : slotOf act 15 = .slice ja L.length jc := hF.slot 15 (by kernel_rfl)
                    have f16 : slotOf act 16 = i64 k := hF.slot 16 (by kernel_rfl)
                    have f17 : slotOf act 17 = i64 E := hF.slot 17 (by kernel_rfl)
                    have f18 : slotOf act 18 = .bool (inB h B.s1.lo B.s1.hi) := (List.cons.inj (hA 31 (by decide))).1
                    have f52 : slotOf act 52 = .slice ja L.length jc := (List.cons.inj (hA 0 (by decide))).1
                    have f53 : slotOf act 53 = i64 k := (List.cons.inj (hA 1 (by decide))).1
                    have f54 : slotOf act 54 = .pointer (some ⟨jb, jo + k, none⟩) := (List.cons.inj (hA 2 (by decide))).1
                    have f55 : slotOf act 55 = i64 h := (List.cons.inj (hA 3 (by decide))).1
                    have f56 : slotOf act 56 = .slice la (cansB B).length lc := (List.cons.inj (hA 4 (by decide))).1
                    have f57 : slotOf act 57 = i64 ix := (List.cons.inj (hA 5 (by decide))).1
                    have f58 : slotOf act 58 = i64 1 := (List.cons.inj (hA 6 (by decide))).1
                    have f59 : slotOf act 59 = .pointer (some ⟨lb, ix * 2, none⟩) := (List.cons.inj (hA 7 (by decide))).1
                    have f60 : slotOf act 60 = .pointer (some ⟨lb, ix * 2 + 1, none⟩) := (List.cons.inj (hA 8 (by decide))).1
                    have f61 : slotOf act 61 = i64 p1 := (List.cons.inj (hA 9 (by decide))).1
                    have f62 : slotOf act 62 = i64 (h - p1) := (List.cons.inj (hA 10 (by decide))).1
                    have f63 : slotOf act 63 = i64 E := (List.cons.inj (hA 11 (by decide))).1
                    have f64 : slotOf act 64 = .agg (bookCells B ta tc sa sc) := (List.cons.inj (hA 12 (by decide))).1
                    have f65 : slotOf act 65 = i64 ld := (List.cons.inj (hA 13 (by decide))).1
                    have f66 : slotOf act 66 = i64 Q := (List.cons.inj (hA 14 (by decide))).1
                    have f67 : slotOf act 67 = i64 (E + Q) := (List.cons.inj (hA 15 (by decide))).1
                    have f68 : slotOf act 68 = .pointer (some ⟨w.heap.size, 12, none⟩) := (List.cons.inj (hA 16 (by decide))).1
                    have f69 : slotOf act 69 = i64 B.under := (List.cons.inj (hA 17 (by decide))).1
                    have f70 : slotOf act 70 = i64 (E + Q + B.under) := (List.cons.inj (hA 18 (by decide))).1
                    have f71 : slotOf act 71 = .bool true := (List.cons.inj (hA 19 (by decide))).1
                    have f72 : slotOf act 72 = .bool true := (List.cons.inj (hA 20 (by decide))).1
                    have f73 : slotOf act 73 = .slice ja L.length jc := (List.cons.inj (hA 21 (by decide))).1
                    have f74 : slotOf act 74 = i64 k := (List.cons.inj (hA 22 (by decide))).1
                    have f75 : slotOf act 75 = .pointer (some ⟨jb, jo + k, none⟩) := (List.cons.inj (hA 23 (by decide))).1
                    have f76 : slotOf act 76 = i64 h := (List.cons.inj (hA 24 (by decide))).1
                    have f77 : slotOf act 77 = .pointer (some ⟨w.heap.size + 1, 2, none⟩) := (List.cons.inj (hA 25 (by decide))).1
                    have f78 : slotOf act 78 = i64 B.s1.lo := (List.cons.inj (hA 26 (by decide))).1
                    have f79 : slotOf act 79 = .pointer (some ⟨w.heap.size + 1, 3, none⟩) := (List.cons.inj (hA 27 (by decide))).1
                    have f80 : slotOf act 80 = i64 B.s1.hi := (List.cons.inj (hA 28 (by decide))).1
                    have f81 : slotOf act 81 = .bool (inB h B.s1.lo B.s1.hi) := (List.cons.inj (hA 29 (by decide))).1
                    have f82 : slotOf act 82 = .bool (inB h B.s1.lo B.s1.hi) := (List.cons.inj (hA 30 (by decide))).1
                    rw [act_eta act 93 hF.size hF.defers]
                    simp only [show List.range 93 = [0, 1, 2, 3, 4, 5, 6, 7, 8, 9, 10, 11, 12, 13, 14, 15, 16, 17, 18, 19, 20, 21, 22, 23, 24, 25, 26, 27, 28, 29, 30, 31, 32, 33, 34, 35, 36, 37, 38, 39, 40, 41, 42, 43, 44, 45, 46, 47, 48, 49, 50, 51, 52, 53, 54, 55, 56, 57, 58, 59, 60, 61, 62, 63, 64, 65, 66, 67, 68, 69, 70, 71, 72, 73, 74, 75, 76, 77, 78, 79, 80, 81, 82, 83, 84, 85, 86, 87, 88, 89, 90, 91, 92] from rfl, List.map_cons, List.map_nil, f1, f2, f3, f4, f5, f11, f12, f13, f14, f15, f16, f17, f18, f52, f53, f54, f55, f56, f57, f58, f59, f60, f61, f62, f63, f64, f65, f66, f67, f68, f69, f70, f71, f72, f73, f74, f75, f76, f77, f78, f79, f80, f81, f82]
                    clear hA hF f1 f2 f3 f4 f5 f11 f12 f13 f14 f15 f16 f17 f18 f52 f53 f54 f55 f56 f57 f58 f59 f60 f61 f62 f63 f64 f65 f66 f67 f68 f69 f70 f71 f72 f73 f74 f75 f76 f77 f78 f79 f80 f81 f82
                    have hb10 := hb9.trans (Below.mono hR hb9.size)
                    have hsS := eS_succ B 1 ld h p1 m
                    have hsA := eA_succ B 1 ld h p1 m
                    rw [(ht hc).out] at hsS hsA
                    replace hsS := Lib.hid hsS
                    replace hsA := Lib.hid hsA
                    clear hR
                    generalize inB h B.s1.lo B.s1.hi = J at hsS hsA ⊢
                    cases J <;> cases S <;> cases A <;> (
                      go_wp2_with fail
                      refine ⟨⟨m + 1, _, _, by omega, ⟨⟨⟨rfl, rfl, rfl, rfl, rfl, rfl, rfl, rfl, rfl, rfl, rfl, hb10⟩, rfl, rfl⟩, congrArg (Value.int .i64) (by have := hE.out; omega)⟩, flagS hS.out hsS.out rfl, flagA hA.out hsA.out rfl⟩, laE_lt hEle rfl rfl⟩)
              · have hEle : ¬ E ≤ B.eh := by have := hE.out; omega
                have hEle' : decide (E ≤ B.eh) = false := decide_eq_false hEle
                obtain rfl : m = (B.eh - B.el + 1).toNat := by omega
                go_wp2_with fail
                refine ⟨⟨k + 1, _, _, by omega, ⟨⟨rfl, rfl, rfl, rfl, rfl, rfl, rfl, rfl, rfl, rfl, rfl, hb9⟩, rfl, congrArg (Value.int .i64) (Int.natCast_succ k).symm⟩, flagS2 hS1.out hS.out hkSs.out, flagA2 hA1.out hA.out hkAs.out⟩, laM_lt hkl rfl rfl⟩
          · have hkl' : ¬ (k : Int) < (L.length : Int) := by omega
            obtain rfl : k = L.length := by omega
            have hb7 := hb5.trans (hb6.mono hb5.size)
            go_wp2_with fail
            refine ⟨⟨ix + 1, _, _, by omega, ⟨rfl, rfl, rfl, rfl, rfl, rfl, rfl, rfl, rfl, rfl, congrArg (Value.int .i64) (Int.natCast_succ ix).symm, hb7⟩, by rw [hS1.out, hS.out]; exact hiSs.out.symm, by rw [hA1.out, hA.out]; exact hiAs.out.symm⟩, laM_lt hlt rfl rfl⟩
    · have hlt' : ¬ (ix : Int) < ((cansB B).length : Int) := by omega
      obtain rfl : ix = (cansB B).length := by omega
      have hbW := hb0.trans (hb3.mono hb0.size)
      have hS2 := hS.out
      have hA2 := hA.out
      rw [hSall.out] at hS2
      rw [hAall.out] at hA2
      have hkd : Hid (kindB B 1 hr ld = (if S then 1 else 0) + (if A then 1 else 0)) := Lib.hid (by rw [hS2, hA2]; rfl)
      have hsm := Lib.hid (fun h : A = true => show S = true from hS2 ▸ sure_maybe hV hcc h0 h1 (hA2 ▸ h))
      clear hS2 hA2 hS hA hSall hAall
      cases A
      · cases S
        · go_wp2_with fail
          go_ret
          exact ⟨by rw [hkd.out]; rfl, hbW⟩
        · go_wp2_with fail
          go_ret
          exact ⟨by rw [hkd.out]; rfl, hbW⟩
      · have hSt := hsm.out rfl
        subst hSt
        go_wp2_with fail
        go_ret
        exact ⟨by rw [hkd.out]; rfl, hbW⟩
end Go.Proofs.YtkbmpkdflgimmaaDoor
