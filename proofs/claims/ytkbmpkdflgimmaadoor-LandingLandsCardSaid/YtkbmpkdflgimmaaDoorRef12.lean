/- The reference's Lands and Most. (Printed by genref12.py.) -/
import Derived.Test.YtkbmpkdflgimmaaDoorRef11
namespace Go.Proofs.YtkbmpkdflgimmaaDoor
open Go.RowKit Go.Shelf

theorem lands92_v {B : Book} {v : Value} {w : World} (hB : BookV w v B) {lb lc : Nat} {la : Option Addr} (hC : CansAt w.heap.size w lb 0 la (cansB B)) (hV : Vld B) (hcc : ∃ f, CC B [] f) {s hr ld : Int} (hs : inB s 0 1 = true) (h0 : 0 ≤ hr) (h1 : hr < B.tides.length) (l0 : 0 ≤ ld) (l1 : ld ≤ 200) :
    Calls Tryd.prog 92 #[v, .slice la (cansB B).length lc, i64 s, i64 hr, i64 ld] w (fun e w' => e = .returned (i64 (kindB B s hr ld)) ∧ Below w.heap.size w w') := by
  have hss : s = 0 ∨ s = 1 := by have h := inB_iff.1 hs; omega
  obtain ⟨tb, tq, ta, tc, sb, sq, sa, sc, rfl, hT, hS⟩ := hB
  have hB : BookV w (bookVal B ta tc sa sc) B := ⟨tb, tq, ta, tc, sb, sq, sa, sc, rfl, hT, hS⟩
  rcases hss with rfl | rfl
  · exact landsRef0_any B ta tc sa sc lb la lc hr ld w hB hC hV hcc h0 h1 l0 (by omega)
  · exact landsRef1_any B ta tc sa sc lb la lc hr ld w hB hC hV hcc h0 h1 l0 (by omega)
theorem qs_of {B : Book} {s hr ld : Int} (h0 : inB s 0 1 = true) (h1 : hourB B hr = true) (h2 : inB ld 0 200 = true) : Qs B s hr ld := by
  have a := inB_iff.1 h0
  have b := inB_iff.1 h1
  have c := inB_iff.1 h2
  exact ⟨by omega, by omega, by omega, by omega, by omega, by omega⟩
theorem qs_of2 {B : Book} {s hr : Int} (_ : inB s 0 1 = true) (h1 : hourB B hr = true) : 0 ≤ hr ∧ hr < B.tides.length := by
  have b := inB_iff.1 h1
  omega
section
variable {B : Book} {s hr ld : Int}
theorem landsR_n (h : askL B s hr ld = false) : Hid (landsR B s hr ld = (0, askE B false)) := Lib.hid (by
  have := ask_false_ne B
  unfold landsR
  rw [h, if_neg (by simpa using this)])
theorem landsR_f0 (h : inB s 0 1 = false) : Hid (landsR B s hr ld = (0, askE B false)) := landsR_n (by simp [askL, h])
theorem landsR_f1 (h : hourB B hr = false) : Hid (landsR B s hr ld = (0, askE B false)) := landsR_n (by simp [askL, h])
theorem landsR_f2 (h : inB ld 0 200 = false) : Hid (landsR B s hr ld = (0, askE B false)) := landsR_n (by simp [askL, h])
theorem landsR_e (h0 : inB s 0 1 = true) (h1 : hourB B hr = true) (h2 : inB ld 0 200 = true) (ha : ¬ askE B true = 0) : Hid (landsR B s hr ld = (0, askE B true)) := Lib.hid (landsR_err rfl ha (qs_of h0 h1 h2))
theorem landsR_o (h0 : inB s 0 1 = true) (h1 : hourB B hr = true) (h2 : inB ld 0 200 = true) (ha : askE B true = 0) : Hid (landsR B s hr ld = (kindB B s hr ld, 0)) := Lib.hid (landsR_ok ha (qs_of h0 h1 h2))
theorem mostR_n (h : askM B s hr = false) : Hid (mostR B s hr = (0, askE B false)) := Lib.hid (by
  have := ask_false_ne B
  unfold mostR
  rw [h, if_neg (by simpa using this)])
theorem mostR_f0 (h : inB s 0 1 = false) : Hid (mostR B s hr = (0, askE B false)) := mostR_n (by simp [askM, h])
theorem mostR_f1 (h : hourB B hr = false) : Hid (mostR B s hr = (0, askE B false)) := mostR_n (by simp [askM, h])
theorem mostR_e (h0 : inB s 0 1 = true) (h1 : hourB B hr = true) (ha : ¬ askE B true = 0) : Hid (mostR B s hr = (0, askE B true)) := Lib.hid (mostR_err rfl ha (qs_of (ld := 0) h0 h1 rfl))
theorem mostR_o (h0 : inB s 0 1 = true) (h1 : hourB B hr = true) (ha : askE B true = 0) : Hid (mostR B s hr = mostO ((List.range 201).find? fun (n : Nat) => sureB B s hr (200 - (n : Int)))) := Lib.hid (by
  have h : askM B s hr = true := by simp [askM, h0, h1]
  unfold mostR
  rw [h, if_pos ha])
theorem mostO_at {n : Nat} (hn : n < 201) (h : sureB B s hr (200 - (n : Int)) = true) (hno : ∀ j : Nat, j < n → sureB B s hr (200 - (j : Int)) = false) : mostO ((List.range 201).find? fun (n : Nat) => sureB B s hr (200 - (n : Int))) = (200 - (n : Int), 0) := by
  rw [List.find?_range_eq_some.2 ⟨h, List.mem_range.2 hn, fun j hj => by rw [hno j hj]; rfl⟩]
  rfl
theorem mostO_none (hno : ∀ j : Nat, j < 201 → sureB B s hr (200 - (j : Int)) = false) : mostO ((List.range 201).find? fun (n : Nat) => sureB B s hr (200 - (n : Int))) = (0, 4) := by
  rw [List.find?_range_eq_none.2 (fun j hj => by rw [hno j hj]; rfl)]
  rfl
theorem most_next {n : Nat} (hno : ∀ j : Nat, j < n → sureB B s hr (200 - (j : Int)) = false) (h : sureB B s hr (200 - (n : Int)) = false) : ∀ j : Nat, j < n + 1 → sureB B s hr (200 - (j : Int)) = false := fun j hj => by
  by_cases hjn : j = n
  · rw [hjn]; exact h
  · exact hno j (by omega)
end
def MoIR (w : World) (B : Book) (s hr : Int) (la : Option Addr) (lc : Nat) (W0 : World) (a : Act) (W : World) : Prop := ∃ n : Nat, n ≤ 201 ∧ a.tmps.size = 38 ∧ a.defers = [] ∧ slotOf a 1 = i64 s ∧ slotOf a 2 = i64 hr ∧ slotOf a 3 = .pointer (some ⟨w.heap.size, 0, none⟩) ∧ slotOf a 8 = .slice la (cansB B).length lc ∧ slotOf a 10 = i64 (200 - (n : Int)) ∧ Below W0.heap.size W0 W ∧ ∀ j : Nat, j < n → sureB B s hr (200 - (j : Int)) = false
def moM (a : Act) : Nat := (intOf (slotOf a 10) + 1).toNat
theorem moM_lt {E : Int} {a b : Act} (h : 0 ≤ E) (ha : slotOf a 10 = i64 E) (hb : slotOf b 10 = i64 (E - 1)) : moM b < moM a := by
  unfold moM
  rw [ha, hb]
  show (E - 1 + 1).toNat < (E + 1).toNat
  omega
def rdLd1f (i : Nat) : List Nat := match i with
  | 0 => [13] | 1 => [14] | 2 => [15] | 3 => [16] | 4 => [17] | 5 => [18] | 6 => [19] | 7 => [20] | 8 => [21] | 9 => [22] | 10 => [23] | 11 => [24] | 12 => [25] | 13 => [12] | 14 => [26] | 15 => [27] | 16 => [10] | 17 => [11] | _ => []
def pureLd1f (i : Nat) : Bool := match i with
  | 2 => false | 6 => false | 10 => false | 12 => false | _ => true
def gLd1f (B : Book) (ta : Option Addr) (tc : Nat) (sa : Option Addr) (sc : Nat) (s : Int) (i : Nat) (vs : List Value) (W : World) : Prop := match i with
  | 0 => vs = [.agg (bookCells B ta tc sa sc)]
  | 1 => vs = [i64 s]
  | 2 => vs = [.bool false]
  | 3 => vs = [.bool false]
  | 4 => True
  | 5 => True
  | 6 => True
  | 7 => vs = [.bool false]
  | 8 => vs = [.bool false]
  | 9 => True
  | 10 => True
  | 11 => vs = [.bool false]
  | 12 => ∃ b a l c, vs = [.tuple #[.slice a (List.length l) c, i64 (askE B false)]] ∧ CansAt W.heap.size W b 0 a l ∧ (askE B false = 0 → l = cansB B)
  | 13 => ∃ b a l c, vs = [.tuple #[.slice a (List.length l) c, i64 (askE B false)]] ∧ CansAt W.heap.size W b 0 a l ∧ (askE B false = 0 → l = cansB B)
  | 14 => ∃ b a l c, vs = [.slice a (List.length l) c] ∧ CansAt W.heap.size W b 0 a l ∧ (askE B false = 0 → l = cansB B)
  | 15 => vs = [i64 (askE B false)]
  | 16 => ∃ b a l c, vs = [.slice a (List.length l) c] ∧ CansAt W.heap.size W b 0 a l ∧ (askE B false = 0 → l = cansB B)
  | 17 => vs = [i64 (askE B false)]
  | _ => True
def rdLd2f (i : Nat) : List Nat := match i with
  | 0 => [13] | 1 => [14] | 2 => [15] | 3 => [16] | 4 => [17] | 5 => [18] | 6 => [19] | 7 => [20] | 8 => [21] | 9 => [22] | 10 => [23] | 11 => [24] | 12 => [25] | 13 => [12] | 14 => [26] | 15 => [27] | 16 => [10] | 17 => [11] | _ => []
def pureLd2f (i : Nat) : Bool := match i with
  | 2 => false | 6 => false | 10 => false | 12 => false | _ => true
def gLd2f (B : Book) (ta : Option Addr) (tc : Nat) (sa : Option Addr) (sc : Nat) (s hr : Int) (i : Nat) (vs : List Value) (W : World) : Prop := match i with
  | 0 => vs = [.agg (bookCells B ta tc sa sc)]
  | 1 => vs = [i64 s]
  | 2 => vs = [.bool true]
  | 3 => vs = [.bool true]
  | 4 => vs = [.agg (bookCells B ta tc sa sc)]
  | 5 => vs = [i64 hr]
  | 6 => vs = [.bool false]
  | 7 => vs = [.bool false]
  | 8 => vs = [.bool false]
  | 9 => True
  | 10 => True
  | 11 => vs = [.bool false]
  | 12 => ∃ b a l c, vs = [.tuple #[.slice a (List.length l) c, i64 (askE B false)]] ∧ CansAt W.heap.size W b 0 a l ∧ (askE B false = 0 → l = cansB B)
  | 13 => ∃ b a l c, vs = [.tuple #[.slice a (List.length l) c, i64 (askE B false)]] ∧ CansAt W.heap.size W b 0 a l ∧ (askE B false = 0 → l = cansB B)
  | 14 => ∃ b a l c, vs = [.slice a (List.length l) c] ∧ CansAt W.heap.size W b 0 a l ∧ (askE B false = 0 → l = cansB B)
  | 15 => vs = [i64 (askE B false)]
  | 16 => ∃ b a l c, vs = [.slice a (List.length l) c] ∧ CansAt W.heap.size W b 0 a l ∧ (askE B false = 0 → l = cansB B)
  | 17 => vs = [i64 (askE B false)]
  | _ => True
def rdLd3f (i : Nat) : List Nat := match i with
  | 0 => [13] | 1 => [14] | 2 => [15] | 3 => [16] | 4 => [17] | 5 => [18] | 6 => [19] | 7 => [20] | 8 => [21] | 9 => [22] | 10 => [23] | 11 => [24] | 12 => [25] | 13 => [12] | 14 => [26] | 15 => [27] | 16 => [10] | 17 => [11] | _ => []
def pureLd3f (i : Nat) : Bool := match i with
  | 2 => false | 6 => false | 10 => false | 12 => false | _ => true
def gLd3f (B : Book) (ta : Option Addr) (tc : Nat) (sa : Option Addr) (sc : Nat) (s hr ld : Int) (i : Nat) (vs : List Value) (W : World) : Prop := match i with
  | 0 => vs = [.agg (bookCells B ta tc sa sc)]
  | 1 => vs = [i64 s]
  | 2 => vs = [.bool true]
  | 3 => vs = [.bool true]
  | 4 => vs = [.agg (bookCells B ta tc sa sc)]
  | 5 => vs = [i64 hr]
  | 6 => vs = [.bool true]
  | 7 => vs = [.bool true]
  | 8 => vs = [.bool true]
  | 9 => vs = [i64 ld]
  | 10 => vs = [.bool false]
  | 11 => vs = [.bool false]
  | 12 => ∃ b a l c, vs = [.tuple #[.slice a (List.length l) c, i64 (askE B false)]] ∧ CansAt W.heap.size W b 0 a l ∧ (askE B false = 0 → l = cansB B)
  | 13 => ∃ b a l c, vs = [.tuple #[.slice a (List.length l) c, i64 (askE B false)]] ∧ CansAt W.heap.size W b 0 a l ∧ (askE B false = 0 → l = cansB B)
  | 14 => ∃ b a l c, vs = [.slice a (List.length l) c] ∧ CansAt W.heap.size W b 0 a l ∧ (askE B false = 0 → l = cansB B)
  | 15 => vs = [i64 (askE B false)]
  | 16 => ∃ b a l c, vs = [.slice a (List.length l) c] ∧ CansAt W.heap.size W b 0 a l ∧ (askE B false = 0 → l = cansB B)
  | 17 => vs = [i64 (askE B false)]
  | _ => True
def rdLd3t (i : Nat) : List Nat := match i with
  | 0 => [13] | 1 => [14] | 2 => [15] | 3 => [16] | 4 => [17] | 5 => [18] | 6 => [19] | 7 => [20] | 8 => [21] | 9 => [22] | 10 => [23] | 11 => [24] | 12 => [25] | 13 => [12] | 14 => [26] | 15 => [27] | 16 => [10] | 17 => [11] | _ => []
def pureLd3t (i : Nat) : Bool := match i with
  | 2 => false | 6 => false | 10 => false | 12 => false | _ => true
def gLd3t (B : Book) (ta : Option Addr) (tc : Nat) (sa : Option Addr) (sc : Nat) (s hr ld : Int) (i : Nat) (vs : List Value) (W : World) : Prop := match i with
  | 0 => vs = [.agg (bookCells B ta tc sa sc)]
  | 1 => vs = [i64 s]
  | 2 => vs = [.bool true]
  | 3 => vs = [.bool true]
  | 4 => vs = [.agg (bookCells B ta tc sa sc)]
  | 5 => vs = [i64 hr]
  | 6 => vs = [.bool true]
  | 7 => vs = [.bool true]
  | 8 => vs = [.bool true]
  | 9 => vs = [i64 ld]
  | 10 => vs = [.bool true]
  | 11 => vs = [.bool true]
  | 12 => ∃ b a l c, vs = [.tuple #[.slice a (List.length l) c, i64 (askE B true)]] ∧ CansAt W.heap.size W b 0 a l ∧ (askE B true = 0 → l = cansB B)
  | 13 => ∃ b a l c, vs = [.tuple #[.slice a (List.length l) c, i64 (askE B true)]] ∧ CansAt W.heap.size W b 0 a l ∧ (askE B true = 0 → l = cansB B)
  | 14 => ∃ b a l c, vs = [.slice a (List.length l) c] ∧ CansAt W.heap.size W b 0 a l ∧ (askE B true = 0 → l = cansB B)
  | 15 => vs = [i64 (askE B true)]
  | 16 => ∃ b a l c, vs = [.slice a (List.length l) c] ∧ CansAt W.heap.size W b 0 a l ∧ (askE B true = 0 → l = cansB B)
  | 17 => vs = [i64 (askE B true)]
  | _ => True
def rdMo1f (i : Nat) : List Nat := match i with
  | 0 => [12] | 1 => [13] | 2 => [14] | 3 => [15] | 4 => [16] | 5 => [17] | 6 => [18] | 7 => [19] | 8 => [20] | 9 => [11] | 10 => [21] | 11 => [22] | 12 => [8] | 13 => [9] | _ => []
def pureMo1f (i : Nat) : Bool := match i with
  | 2 => false | 6 => false | 8 => false | _ => true
def gMo1f (B : Book) (ta : Option Addr) (tc : Nat) (sa : Option Addr) (sc : Nat) (s : Int) (i : Nat) (vs : List Value) (W : World) : Prop := match i with
  | 0 => vs = [.agg (bookCells B ta tc sa sc)]
  | 1 => vs = [i64 s]
  | 2 => vs = [.bool false]
  | 3 => vs = [.bool false]
  | 4 => True
  | 5 => True
  | 6 => True
  | 7 => vs = [.bool false]
  | 8 => ∃ b a l c, vs = [.tuple #[.slice a (List.length l) c, i64 (askE B false)]] ∧ CansAt W.heap.size W b 0 a l ∧ (askE B false = 0 → l = cansB B)
  | 9 => ∃ b a l c, vs = [.tuple #[.slice a (List.length l) c, i64 (askE B false)]] ∧ CansAt W.heap.size W b 0 a l ∧ (askE B false = 0 → l = cansB B)
  | 10 => ∃ b a l c, vs = [.slice a (List.length l) c] ∧ CansAt W.heap.size W b 0 a l ∧ (askE B false = 0 → l = cansB B)
  | 11 => vs = [i64 (askE B false)]
  | 12 => ∃ b a l c, vs = [.slice a (List.length l) c] ∧ CansAt W.heap.size W b 0 a l ∧ (askE B false = 0 → l = cansB B)
  | 13 => vs = [i64 (askE B false)]
  | _ => True
def rdMo2f (i : Nat) : List Nat := match i with
  | 0 => [12] | 1 => [13] | 2 => [14] | 3 => [15] | 4 => [16] | 5 => [17] | 6 => [18] | 7 => [19] | 8 => [20] | 9 => [11] | 10 => [21] | 11 => [22] | 12 => [8] | 13 => [9] | _ => []
def pureMo2f (i : Nat) : Bool := match i with
  | 2 => false | 6 => false | 8 => false | _ => true
def gMo2f (B : Book) (ta : Option Addr) (tc : Nat) (sa : Option Addr) (sc : Nat) (s hr : Int) (i : Nat) (vs : List Value) (W : World) : Prop := match i with
  | 0 => vs = [.agg (bookCells B ta tc sa sc)]
  | 1 => vs = [i64 s]
  | 2 => vs = [.bool true]
  | 3 => vs = [.bool true]
  | 4 => vs = [.agg (bookCells B ta tc sa sc)]
  | 5 => vs = [i64 hr]
  | 6 => vs = [.bool false]
  | 7 => vs = [.bool false]
  | 8 => ∃ b a l c, vs = [.tuple #[.slice a (List.length l) c, i64 (askE B false)]] ∧ CansAt W.heap.size W b 0 a l ∧ (askE B false = 0 → l = cansB B)
  | 9 => ∃ b a l c, vs = [.tuple #[.slice a (List.length l) c, i64 (askE B false)]] ∧ CansAt W.heap.size W b 0 a l ∧ (askE B false = 0 → l = cansB B)
  | 10 => ∃ b a l c, vs = [.slice a (List.length l) c] ∧ CansAt W.heap.size W b 0 a l ∧ (askE B false = 0 → l = cansB B)
  | 11 => vs = [i64 (askE B false)]
  | 12 => ∃ b a l c, vs = [.slice a (List.length l) c] ∧ CansAt W.heap.size W b 0 a l ∧ (askE B false = 0 → l = cansB B)
  | 13 => vs = [i64 (askE B false)]
  | _ => True
def rdMo2t (i : Nat) : List Nat := match i with
  | 0 => [12] | 1 => [13] | 2 => [14] | 3 => [15] | 4 => [16] | 5 => [17] | 6 => [18] | 7 => [19] | 8 => [20] | 9 => [11] | 10 => [21] | 11 => [22] | 12 => [8] | 13 => [9] | _ => []
def pureMo2t (i : Nat) : Bool := match i with
  | 2 => false | 6 => false | 8 => false | _ => true
def gMo2t (B : Book) (ta : Option Addr) (tc : Nat) (sa : Option Addr) (sc : Nat) (s hr : Int) (i : Nat) (vs : List Value) (W : World) : Prop := match i with
  | 0 => vs = [.agg (bookCells B ta tc sa sc)]
  | 1 => vs = [i64 s]
  | 2 => vs = [.bool true]
  | 3 => vs = [.bool true]
  | 4 => vs = [.agg (bookCells B ta tc sa sc)]
  | 5 => vs = [i64 hr]
  | 6 => vs = [.bool true]
  | 7 => vs = [.bool true]
  | 8 => ∃ b a l c, vs = [.tuple #[.slice a (List.length l) c, i64 (askE B true)]] ∧ CansAt W.heap.size W b 0 a l ∧ (askE B true = 0 → l = cansB B)
  | 9 => ∃ b a l c, vs = [.tuple #[.slice a (List.length l) c, i64 (askE B true)]] ∧ CansAt W.heap.size W b 0 a l ∧ (askE B true = 0 → l = cansB B)
  | 10 => ∃ b a l c, vs = [.slice a (List.length l) c] ∧ CansAt W.heap.size W b 0 a l ∧ (askE B true = 0 → l = cansB B)
  | 11 => vs = [i64 (askE B true)]
  | 12 => ∃ b a l c, vs = [.slice a (List.length l) c] ∧ CansAt W.heap.size W b 0 a l ∧ (askE B true = 0 → l = cansB B)
  | 13 => vs = [i64 (askE B true)]
  | _ => True
set_option maxRecDepth 100000 in
set_option maxHeartbeats 8000000 in
theorem landsRefq_any (B : Book) (ta : Option Addr) (tc : Nat) (sa : Option Addr) (sc : Nat) (s hr ld : Int) (w : World) (hB : BookV w (bookVal B ta tc sa sc) B) (htl : B.tides.length * 16 ≤ 140737488351232) : Calls Tryd.prog 63 #[bookVal B ta tc sa sc, i64 s, i64 hr, i64 ld] w (LandsRPost B s hr ld w) := by
  have hb0 : Below w.heap.size w (w.alloc (.cells (bookCells B ta tc sa sc) 30)) := (Below.refl _ w).alloc (Nat.le_refl _) _
  have hx0 : (w.alloc (.cells (bookCells B ta tc sa sc) 30)).heap[w.heap.size]? = some (.cells (bookCells B ta tc sa sc) 30 (0, 0)) := heap_alloc_new w _
  have hx0l := (Array.getElem?_eq_some_iff.1 hx0).1
  have hB0 := hB.below hb0
  cases hq0 : inB s 0 1
  · replace hq0 := Lib.hid hq0
    have hne : (askE B false != 0) = true := ask_false_ne B
    have hfin := landsR_f0 (B := B) (hr := hr) (ld := ld) hq0.out
    go_enter Tryd.func63, Tryd.ntmps63
    go_wp2_with fail
    refine rg_region rdLd1f pureLd1f (gLd1f B ta tc sa sc s) BR (by kernel_rfl) (by kernel_rfl) (fun n => BR.drawn _ n) BR.refl (fun _ _ _ => BR.trans) ?_ ?_ ?_
    · intro i hi vs wA wB hG hR
      match i, hi, hG with
      | 0, _, hG => exact hG
      | 1, _, hG => exact hG
      | 2, _, hG => exact hG
      | 3, _, hG => exact hG
      | 4, _, _ => trivial
      | 5, _, _ => trivial
      | 6, _, _ => trivial
      | 7, _, hG => exact hG
      | 8, _, hG => exact hG
      | 9, _, _ => trivial
      | 10, _, _ => trivial
      | 11, _, hG => exact hG
      | 12, _, hG => obtain ⟨b, a, l, c, h1, h2, h3⟩ := hG; exact ⟨b, a, l, c, h1, (h2.same (Same.of_below hR)).up (Below.size hR), h3⟩
      | 13, _, hG => obtain ⟨b, a, l, c, h1, h2, h3⟩ := hG; exact ⟨b, a, l, c, h1, (h2.same (Same.of_below hR)).up (Below.size hR), h3⟩
      | 14, _, hG => obtain ⟨b, a, l, c, h1, h2, h3⟩ := hG; exact ⟨b, a, l, c, h1, (h2.same (Same.of_below hR)).up (Below.size hR), h3⟩
      | 15, _, hG => exact hG
      | 16, _, hG => obtain ⟨b, a, l, c, h1, h2, h3⟩ := hG; exact ⟨b, a, l, c, h1, (h2.same (Same.of_below hR)).up (Below.size hR), h3⟩
      | 17, _, hG => exact hG
      | _ + 18, _, _ => trivial
    · intro i op ho act wA hR hF hD
      have sz : act.tmps.size = 37 := hF.size
      match i, ho, hD with
      | 0, ho, hD =>
        cases ho
        have e4 := slot_tmps (show slotOf act 4 = .pointer (some ⟨w.heap.size, 0, none⟩) from hF.slot 4 (by kernel_rfl))
        refine rgw_val (wanted_none rfl) (.agg (bookCells B ta tc sa sc)) (by exact ex_load_row (a := act) 30 (.tmp 4) rfl w.heap.size (show slotOf act 4 = .pointer (some ⟨w.heap.size, 0, none⟩) from hF.slot 4 (by kernel_rfl)) 30 _ (0, 0) _ ((Below.block hR _ hx0l).trans hx0) Tryd.underlying30 rfl (by rw [size30]; rfl)) (BR.refl _) ?_
        exact congrArg (fun v => [v]) (slotOf_same act 13 _ (by omega))
      | 1, ho, hD =>
        cases ho
        have e1 := slot_tmps (show slotOf act 1 = i64 s from hF.slot 1 (by kernel_rfl))
        refine rgw_val (wanted_none rfl) (i64 s) (by simp [go_sem, e1]) (BR.refl _) ?_
        exact congrArg (fun v => [v]) (slotOf_same act 14 _ (by omega))
      | 2, ho, hD =>
        cases ho
        have e14 := slot_tmps (List.cons.inj (hD 1 (by decide))).1
        refine rgw_call (wanted_none rfl) 87 #[i64 s] (by simp [go_sem, e14]) rfl ?_
        refine (isShoreR_any _ _).mono ?_
        rintro e wB ⟨rfl, rfl⟩
        rw [hq0.out]
        exact ⟨_, rfl, BR.refl _, congrArg (fun v => [v]) (slotOf_same act 15 _ (by omega))⟩
      | 3, ho, hD =>
        cases ho
        have e15 := slot_tmps (List.cons.inj (hD 2 (by decide))).1
        refine rgw_val (wanted_none rfl) (.bool false) (by simp [go_sem, e15]) (BR.refl _) ?_
        exact congrArg (fun v => [v]) (slotOf_same act 16 _ (by omega))
      | 4, ho, hD =>
        cases ho
        have dj : slotOf act 16 = .bool false := (List.cons.inj (hD 3 (by decide))).1
        refine rgw_skip (by rw [wanted_of (d := 16) rfl rfl dj]; rfl) ?_
        trivial
      | 5, ho, hD =>
        cases ho
        have dj : slotOf act 16 = .bool false := (List.cons.inj (hD 3 (by decide))).1
        refine rgw_skip (by rw [wanted_of (d := 16) rfl rfl dj]; rfl) ?_
        trivial
      | 6, ho, hD =>
        cases ho
        have dj : slotOf act 16 = .bool false := (List.cons.inj (hD 3 (by decide))).1
        refine rgw_skip (by rw [wanted_of (d := 16) rfl rfl dj]; rfl) ?_
        trivial
      | 7, ho, hD =>
        cases ho
        have e16 := slot_tmps (List.cons.inj (hD 3 (by decide))).1
        refine rgw_val (wanted_none rfl) (.bool false) (by simp [go_sem, e16]) (BR.refl _) ?_
        exact congrArg (fun v => [v]) (slotOf_same act 20 _ (by omega))
      | 8, ho, hD =>
        cases ho
        have e20 := slot_tmps (List.cons.inj (hD 7 (by decide))).1
        refine rgw_val (wanted_none rfl) (.bool false) (by simp [go_sem, e20]) (BR.refl _) ?_
        exact congrArg (fun v => [v]) (slotOf_same act 21 _ (by omega))
      | 9, ho, hD =>
        cases ho
        have dj : slotOf act 21 = .bool false := (List.cons.inj (hD 8 (by decide))).1
        refine rgw_skip (by rw [wanted_of (d := 21) rfl rfl dj]; rfl) ?_
        trivial
      | 10, ho, hD =>
        cases ho
        have dj : slotOf act 21 = .bool false := (List.cons.inj (hD 8 (by decide))).1
        refine rgw_skip (by rw [wanted_of (d := 21) rfl rfl dj]; rfl) ?_
        trivial
      | 11, ho, hD =>
        cases ho
        have e21 := slot_tmps (List.cons.inj (hD 8 (by decide))).1
        refine rgw_val (wanted_none rfl) (.bool false) (by simp [go_sem, e21]) (BR.refl _) ?_
        exact congrArg (fun v => [v]) (slotOf_same act 24 _ (by omega))
      | 12, ho, hD =>
        cases ho
        have e13 := slot_tmps (List.cons.inj (hD 0 (by decide))).1
        have e24 := slot_tmps (List.cons.inj (hD 11 (by decide))).1
        refine rgw_call (wanted_none rfl) 88 #[bookVal B ta tc sa sc, .bool false] (by simp [go_sem, e13, e24]) rfl ?_
        refine (askedR_v (hB0.below hR) false).mono ?_
        rintro e wB ⟨b, a, l, c, rfl, hb, hC, hl⟩
        exact ⟨_, rfl, hb, b, a, l, c, congrArg (fun v => [v]) (slotOf_same act 25 _ (by omega)), hC, hl⟩
      | 13, ho, hD =>
        cases ho
        obtain ⟨b, a, l, c, dt, hC, hl⟩ := hD 12 (by decide)
        have es := slot_tmps (List.cons.inj dt).1
        refine rgw_val (wanted_none rfl) (.tuple #[.slice a (List.length l) c, i64 (askE B false)]) (by simp [go_sem, es]) (BR.refl _) ?_
        exact ⟨b, a, l, c, congrArg (fun v => [v]) (slotOf_same act 12 _ (by omega)), hC, hl⟩
      | 14, ho, hD =>
        cases ho
        obtain ⟨b, a, l, c, dt, hC, hl⟩ := hD 13 (by decide)
        have es := slot_tmps (List.cons.inj dt).1
        refine rgw_val (wanted_none rfl) (.slice a (List.length l) c) (by simp [go_sem, es]) (BR.refl _) ?_
        exact ⟨b, a, l, c, congrArg (fun v => [v]) (slotOf_same act 26 _ (by omega)), hC, hl⟩
      | 15, ho, hD =>
        cases ho
        obtain ⟨b, a, l, c, dt, hC, hl⟩ := hD 13 (by decide)
        have es := slot_tmps (List.cons.inj dt).1
        refine rgw_val (wanted_none rfl) (i64 (askE B false)) (by simp [go_sem, es]) (BR.refl _) ?_
        exact congrArg (fun v => [v]) (slotOf_same act 27 _ (by omega))
      | 16, ho, hD =>
        cases ho
        obtain ⟨b, a, l, c, dt, hC, hl⟩ := hD 14 (by decide)
        have es := slot_tmps (List.cons.inj dt).1
        refine rgw_val (wanted_none rfl) (.slice a (List.length l) c) (by simp [go_sem, es]) (BR.refl _) ?_
        exact ⟨b, a, l, c, congrArg (fun v => [v]) (slotOf_same act 10 _ (by omega)), hC, hl⟩
      | 17, ho, hD =>
        cases ho
        have e27 := slot_tmps (List.cons.inj (hD 15 (by decide))).1
        refine rgw_val (wanted_none rfl) (i64 (askE B false)) (by simp [go_sem, e27]) (BR.refl _) ?_
        exact congrArg (fun v => [v]) (slotOf_same act 11 _ (by omega))
      | _ + 18, ho, _ => cases ho
    · intro act wA hR hF hA
      have f1 : slotOf act 1 = i64 s := hF.slot 1 (by kernel_rfl)
      have f2 : slotOf act 2 = i64 hr := hF.slot 2 (by kernel_rfl)
      have f3 : slotOf act 3 = i64 ld := hF.slot 3 (by kernel_rfl)
      have f4 : slotOf act 4 = .pointer (some ⟨w.heap.size, 0, none⟩) := hF.slot 4 (by kernel_rfl)
      have f8 : slotOf act 8 = i64 0 := hF.slot 8 (by kernel_rfl)
      have f9 : slotOf act 9 = i64 0 := hF.slot 9 (by kernel_rfl)
      obtain ⟨lb, la, l, lc, d10, hC, hl⟩ := hA 16 (by decide)
      have f10 : slotOf act 10 = .slice la l.length lc := (List.cons.inj d10).1
      have f11 : slotOf act 11 = i64 (askE B false) := (List.cons.inj (hA 17 (by decide))).1
      have f13 : slotOf act 13 = .agg (bookCells B ta tc sa sc) := (List.cons.inj (hA 0 (by decide))).1
      have f14 : slotOf act 14 = i64 s := (List.cons.inj (hA 1 (by decide))).1
      have f15 : slotOf act 15 = .bool false := (List.cons.inj (hA 2 (by decide))).1
      have f16 : slotOf act 16 = .bool false := (List.cons.inj (hA 3 (by decide))).1
      have f20 : slotOf act 20 = .bool false := (List.cons.inj (hA 7 (by decide))).1
      have f21 : slotOf act 21 = .bool false := (List.cons.inj (hA 8 (by decide))).1
      have f24 : slotOf act 24 = .bool false := (List.cons.inj (hA 11 (by decide))).1
      have f27 : slotOf act 27 = i64 (askE B false) := (List.cons.inj (hA 15 (by decide))).1
      rw [act_eta act 37 hF.size hF.defers]
      simp only [show List.range 37 = [0, 1, 2, 3, 4, 5, 6, 7, 8, 9, 10, 11, 12, 13, 14, 15, 16, 17, 18, 19, 20, 21, 22, 23, 24, 25, 26, 27, 28, 29, 30, 31, 32, 33, 34, 35, 36] from rfl, List.map_cons, List.map_nil, f1, f2, f3, f4, f8, f9, f10, f11, f13, f14, f15, f16, f20, f21, f24, f27]
      clear hA hF f1 f2 f3 f4 f8 f9 f10 f11 f13 f14 f15 f16 f20 f21 f24 f27
      have hbA := hb0.trans (Below.mono hR hb0.size)
      clear hR
      go_wp2_with fail
      refine bodyPost_ret (results_tmp2 rfl _ _) rfl ⟨by rw [hfin.out]; rfl, hbA⟩
  · replace hq0 := Lib.hid hq0
    cases hq1 : hourB B hr
    · replace hq1 := Lib.hid hq1
      have hne : (askE B false != 0) = true := ask_false_ne B
      have hfin := landsR_f1 (s := s) (ld := ld) hq1.out
      go_enter Tryd.func63, Tryd.ntmps63
      go_wp2_with fail
      refine rg_region rdLd2f pureLd2f (gLd2f B ta tc sa sc s hr) BR (by kernel_rfl) (by kernel_rfl) (fun n => BR.drawn _ n) BR.refl (fun _ _ _ => BR.trans) ?_ ?_ ?_
      · intro i hi vs wA wB hG hR
        match i, hi, hG with
        | 0, _, hG => exact hG
        | 1, _, hG => exact hG
        | 2, _, hG => exact hG
        | 3, _, hG => exact hG
        | 4, _, hG => exact hG
        | 5, _, hG => exact hG
        | 6, _, hG => exact hG
        | 7, _, hG => exact hG
        | 8, _, hG => exact hG
        | 9, _, _ => trivial
        | 10, _, _ => trivial
        | 11, _, hG => exact hG
        | 12, _, hG => obtain ⟨b, a, l, c, h1, h2, h3⟩ := hG; exact ⟨b, a, l, c, h1, (h2.same (Same.of_below hR)).up (Below.size hR), h3⟩
        | 13, _, hG => obtain ⟨b, a, l, c, h1, h2, h3⟩ := hG; exact ⟨b, a, l, c, h1, (h2.same (Same.of_below hR)).up (Below.size hR), h3⟩
        | 14, _, hG => obtain ⟨b, a, l, c, h1, h2, h3⟩ := hG; exact ⟨b, a, l, c, h1, (h2.same (Same.of_below hR)).up (Below.size hR), h3⟩
        | 15, _, hG => exact hG
        | 16, _, hG => obtain ⟨b, a, l, c, h1, h2, h3⟩ := hG; exact ⟨b, a, l, c, h1, (h2.same (Same.of_below hR)).up (Below.size hR), h3⟩
        | 17, _, hG => exact hG
        | _ + 18, _, _ => trivial
      · intro i op ho act wA hR hF hD
        have sz : act.tmps.size = 37 := hF.size
        match i, ho, hD with
        | 0, ho, hD =>
          cases ho
          have e4 := slot_tmps (show slotOf act 4 = .pointer (some ⟨w.heap.size, 0, none⟩) from hF.slot 4 (by kernel_rfl))
          refine rgw_val (wanted_none rfl) (.agg (bookCells B ta tc sa sc)) (by exact ex_load_row (a := act) 30 (.tmp 4) rfl w.heap.size (show slotOf act 4 = .pointer (some ⟨w.heap.size, 0, none⟩) from hF.slot 4 (by kernel_rfl)) 30 _ (0, 0) _ ((Below.block hR _ hx0l).trans hx0) Tryd.underlying30 rfl (by rw [size30]; rfl)) (BR.refl _) ?_
          exact congrArg (fun v => [v]) (slotOf_same act 13 _ (by omega))
        | 1, ho, hD =>
          cases ho
          have e1 := slot_tmps (show slotOf act 1 = i64 s from hF.slot 1 (by kernel_rfl))
          refine rgw_val (wanted_none rfl) (i64 s) (by simp [go_sem, e1]) (BR.refl _) ?_
          exact congrArg (fun v => [v]) (slotOf_same act 14 _ (by omega))
        | 2, ho, hD =>
          cases ho
          have e14 := slot_tmps (List.cons.inj (hD 1 (by decide))).1
          refine rgw_call (wanted_none rfl) 87 #[i64 s] (by simp [go_sem, e14]) rfl ?_
          refine (isShoreR_any _ _).mono ?_
          rintro e wB ⟨rfl, rfl⟩
          rw [hq0.out]
          exact ⟨_, rfl, BR.refl _, congrArg (fun v => [v]) (slotOf_same act 15 _ (by omega))⟩
        | 3, ho, hD =>
          cases ho
          have e15 := slot_tmps (List.cons.inj (hD 2 (by decide))).1
          refine rgw_val (wanted_none rfl) (.bool true) (by simp [go_sem, e15]) (BR.refl _) ?_
          exact congrArg (fun v => [v]) (slotOf_same act 16 _ (by omega))
        | 4, ho, hD =>
          cases ho
          have dj : slotOf act 16 = .bool true := (List.cons.inj (hD 3 (by decide))).1
          have e4 := slot_tmps (show slotOf act 4 = .pointer (some ⟨w.heap.size, 0, none⟩) from hF.slot 4 (by kernel_rfl))
          refine rgw_val (by rw [wanted_of (d := 16) rfl rfl dj]; rfl) (.agg (bookCells B ta tc sa sc)) (by exact ex_load_row (a := act) 30 (.tmp 4) rfl w.heap.size (show slotOf act 4 = .pointer (some ⟨w.heap.size, 0, none⟩) from hF.slot 4 (by kernel_rfl)) 30 _ (0, 0) _ ((Below.block hR _ hx0l).trans hx0) Tryd.underlying30 rfl (by rw [size30]; rfl)) (BR.refl _) ?_
          exact congrArg (fun v => [v]) (slotOf_same act 17 _ (by omega))
        | 5, ho, hD =>
          cases ho
          have dj : slotOf act 16 = .bool true := (List.cons.inj (hD 3 (by decide))).1
          have e2 := slot_tmps (show slotOf act 2 = i64 hr from hF.slot 2 (by kernel_rfl))
          refine rgw_val (by rw [wanted_of (d := 16) rfl rfl dj]; rfl) (i64 hr) (by simp [go_sem, e2]) (BR.refl _) ?_
          exact congrArg (fun v => [v]) (slotOf_same act 18 _ (by omega))
        | 6, ho, hD =>
          cases ho
          have dj : slotOf act 16 = .bool true := (List.cons.inj (hD 3 (by decide))).1
          have e17 := slot_tmps (List.cons.inj (hD 4 (by decide))).1
          have e18 := slot_tmps (List.cons.inj (hD 5 (by decide))).1
          refine rgw_call (by rw [wanted_of (d := 16) rfl rfl dj]; rfl) 86 #[bookVal B ta tc sa sc, i64 hr] (by simp [go_sem, e17, e18]) rfl ?_
          refine (isHourR_any B ta tc sa sc _ _ htl).mono ?_
          rintro e wB ⟨rfl, hb⟩
          rw [hq1.out]
          exact ⟨_, rfl, hb, congrArg (fun v => [v]) (slotOf_same act 19 _ (by omega))⟩
        | 7, ho, hD =>
          cases ho
          have e16 := slot_tmps (List.cons.inj (hD 3 (by decide))).1
          have e19 := slot_tmps (List.cons.inj (hD 6 (by decide))).1
          refine rgw_val (wanted_none rfl) (.bool false) (by simp [go_sem, e16, e19]) (BR.refl _) ?_
          exact congrArg (fun v => [v]) (slotOf_same act 20 _ (by omega))
        | 8, ho, hD =>
          cases ho
          have e20 := slot_tmps (List.cons.inj (hD 7 (by decide))).1
          refine rgw_val (wanted_none rfl) (.bool false) (by simp [go_sem, e20]) (BR.refl _) ?_
          exact congrArg (fun v => [v]) (slotOf_same act 21 _ (by omega))
        | 9, ho, hD =>
          cases ho
          have dj : slotOf act 21 = .bool false := (List.cons.inj (hD 8 (by decide))).1
          refine rgw_skip (by rw [wanted_of (d := 21) rfl rfl dj]; rfl) ?_
          trivial
        | 10, ho, hD =>
          cases ho
          have dj : slotOf act 21 = .bool false := (List.cons.inj (hD 8 (by decide))).1
          refine rgw_skip (by rw [wanted_of (d := 21) rfl rfl dj]; rfl) ?_
          trivial
        | 11, ho, hD =>
          cases ho
          have e21 := slot_tmps (List.cons.inj (hD 8 (by decide))).1
          refine rgw_val (wanted_none rfl) (.bool false) (by simp [go_sem, e21]) (BR.refl _) ?_
          exact congrArg (fun v => [v]) (slotOf_same act 24 _ (by omega))
        | 12, ho, hD =>
          cases ho
          have e13 := slot_tmps (List.cons.inj (hD 0 (by decide))).1
          have e24 := slot_tmps (List.cons.inj (hD 11 (by decide))).1
          refine rgw_call (wanted_none rfl) 88 #[bookVal B ta tc sa sc, .bool false] (by simp [go_sem, e13, e24]) rfl ?_
          refine (askedR_v (hB0.below hR) false).mono ?_
          rintro e wB ⟨b, a, l, c, rfl, hb, hC, hl⟩
          exact ⟨_, rfl, hb, b, a, l, c, congrArg (fun v => [v]) (slotOf_same act 25 _ (by omega)), hC, hl⟩
        | 13, ho, hD =>
          cases ho
          obtain ⟨b, a, l, c, dt, hC, hl⟩ := hD 12 (by decide)
          have es := slot_tmps (List.cons.inj dt).1
          refine rgw_val (wanted_none rfl) (.tuple #[.slice a (List.length l) c, i64 (askE B false)]) (by simp [go_sem, es]) (BR.refl _) ?_
          exact ⟨b, a, l, c, congrArg (fun v => [v]) (slotOf_same act 12 _ (by omega)), hC, hl⟩
        | 14, ho, hD =>
          cases ho
          obtain ⟨b, a, l, c, dt, hC, hl⟩ := hD 13 (by decide)
          have es := slot_tmps (List.cons.inj dt).1
          refine rgw_val (wanted_none rfl) (.slice a (List.length l) c) (by simp [go_sem, es]) (BR.refl _) ?_
          exact ⟨b, a, l, c, congrArg (fun v => [v]) (slotOf_same act 26 _ (by omega)), hC, hl⟩
        | 15, ho, hD =>
          cases ho
          obtain ⟨b, a, l, c, dt, hC, hl⟩ := hD 13 (by decide)
          have es := slot_tmps (List.cons.inj dt).1
          refine rgw_val (wanted_none rfl) (i64 (askE B false)) (by simp [go_sem, es]) (BR.refl _) ?_
          exact congrArg (fun v => [v]) (slotOf_same act 27 _ (by omega))
        | 16, ho, hD =>
          cases ho
          obtain ⟨b, a, l, c, dt, hC, hl⟩ := hD 14 (by decide)
          have es := slot_tmps (List.cons.inj dt).1
          refine rgw_val (wanted_none rfl) (.slice a (List.length l) c) (by simp [go_sem, es]) (BR.refl _) ?_
          exact ⟨b, a, l, c, congrArg (fun v => [v]) (slotOf_same act 10 _ (by omega)), hC, hl⟩
        | 17, ho, hD =>
          cases ho
          have e27 := slot_tmps (List.cons.inj (hD 15 (by decide))).1
          refine rgw_val (wanted_none rfl) (i64 (askE B false)) (by simp [go_sem, e27]) (BR.refl _) ?_
          exact congrArg (fun v => [v]) (slotOf_same act 11 _ (by omega))
        | _ + 18, ho, _ => cases ho
      · intro act wA hR hF hA
        have f1 : slotOf act 1 = i64 s := hF.slot 1 (by kernel_rfl)
        have f2 : slotOf act 2 = i64 hr := hF.slot 2 (by kernel_rfl)
        have f3 : slotOf act 3 = i64 ld := hF.slot 3 (by kernel_rfl)
        have f4 : slotOf act 4 = .pointer (some ⟨w.heap.size, 0, none⟩) := hF.slot 4 (by kernel_rfl)
        have f8 : slotOf act 8 = i64 0 := hF.slot 8 (by kernel_rfl)
        have f9 : slotOf act 9 = i64 0 := hF.slot 9 (by kernel_rfl)
        obtain ⟨lb, la, l, lc, d10, hC, hl⟩ := hA 16 (by decide)
        have f10 : slotOf act 10 = .slice la l.length lc := (List.cons.inj d10).1
        have f11 : slotOf act 11 = i64 (askE B false) := (List.cons.inj (hA 17 (by decide))).1
        have f13 : slotOf act 13 = .agg (bookCells B ta tc sa sc) := (List.cons.inj (hA 0 (by decide))).1
        have f14 : slotOf act 14 = i64 s := (List.cons.inj (hA 1 (by decide))).1
        have f15 : slotOf act 15 = .bool true := (List.cons.inj (hA 2 (by decide))).1
        have f16 : slotOf act 16 = .bool true := (List.cons.inj (hA 3 (by decide))).1
        have f17 : slotOf act 17 = .agg (bookCells B ta tc sa sc) := (List.cons.inj (hA 4 (by decide))).1
        have f18 : slotOf act 18 = i64 hr := (List.cons.inj (hA 5 (by decide))).1
        have f19 : slotOf act 19 = .bool false := (List.cons.inj (hA 6 (by decide))).1
        have f20 : slotOf act 20 = .bool false := (List.cons.inj (hA 7 (by decide))).1
        have f21 : slotOf act 21 = .bool false := (List.cons.inj (hA 8 (by decide))).1
        have f24 : slotOf act 24 = .bool false := (List.cons.inj (hA 11 (by decide))).1
        have f27 : slotOf act 27 = i64 (askE B false) := (List.cons.inj (hA 15 (by decide))).1
        rw [act_eta act 37 hF.size hF.defers]
        simp only [show List.range 37 = [0, 1, 2, 3, 4, 5, 6, 7, 8, 9, 10, 11, 12, 13, 14, 15, 16, 17, 18, 19, 20, 21, 22, 23, 24, 25, 26, 27, 28, 29, 30, 31, 32, 33, 34, 35, 36] from rfl, List.map_cons, List.map_nil, f1, f2, f3, f4, f8, f9, f10, f11, f13, f14, f15, f16, f17, f18, f19, f20, f21, f24, f27]
        clear hA hF f1 f2 f3 f4 f8 f9 f10 f11 f13 f14 f15 f16 f17 f18 f19 f20 f21 f24 f27
        have hbA := hb0.trans (Below.mono hR hb0.size)
        clear hR
        go_wp2_with fail
        refine bodyPost_ret (results_tmp2 rfl _ _) rfl ⟨by rw [hfin.out]; rfl, hbA⟩
    · replace hq1 := Lib.hid hq1
      cases hq2 : inB ld 0 200
      · replace hq2 := Lib.hid hq2
        have hne : (askE B false != 0) = true := ask_false_ne B
        have hfin := landsR_f2 (B := B) (s := s) (hr := hr) hq2.out
        go_enter Tryd.func63, Tryd.ntmps63
        go_wp2_with fail
        refine rg_region rdLd3f pureLd3f (gLd3f B ta tc sa sc s hr ld) BR (by kernel_rfl) (by kernel_rfl) (fun n => BR.drawn _ n) BR.refl (fun _ _ _ => BR.trans) ?_ ?_ ?_
        · intro i hi vs wA wB hG hR
          match i, hi, hG with
          | 0, _, hG => exact hG
          | 1, _, hG => exact hG
          | 2, _, hG => exact hG
          | 3, _, hG => exact hG
          | 4, _, hG => exact hG
          | 5, _, hG => exact hG
          | 6, _, hG => exact hG
          | 7, _, hG => exact hG
          | 8, _, hG => exact hG
          | 9, _, hG => exact hG
          | 10, _, hG => exact hG
          | 11, _, hG => exact hG
          | 12, _, hG => obtain ⟨b, a, l, c, h1, h2, h3⟩ := hG; exact ⟨b, a, l, c, h1, (h2.same (Same.of_below hR)).up (Below.size hR), h3⟩
          | 13, _, hG => obtain ⟨b, a, l, c, h1, h2, h3⟩ := hG; exact ⟨b, a, l, c, h1, (h2.same (Same.of_below hR)).up (Below.size hR), h3⟩
          | 14, _, hG => obtain ⟨b, a, l, c, h1, h2, h3⟩ := hG; exact ⟨b, a, l, c, h1, (h2.same (Same.of_below hR)).up (Below.size hR), h3⟩
          | 15, _, hG => exact hG
          | 16, _, hG => obtain ⟨b, a, l, c, h1, h2, h3⟩ := hG; exact ⟨b, a, l, c, h1, (h2.same (Same.of_below hR)).up (Below.size hR), h3⟩
          | 17, _, hG => exact hG
          | _ + 18, _, _ => trivial
        · intro i op ho act wA hR hF hD
          have sz : act.tmps.size = 37 := hF.size
          match i, ho, hD with
          | 0, ho, hD =>
            cases ho
            have e4 := slot_tmps (show slotOf act 4 = .pointer (some ⟨w.heap.size, 0, none⟩) from hF.slot 4 (by kernel_rfl))
            refine rgw_val (wanted_none rfl) (.agg (bookCells B ta tc sa sc)) (by exact ex_load_row (a := act) 30 (.tmp 4) rfl w.heap.size (show slotOf act 4 = .pointer (some ⟨w.heap.size, 0, none⟩) from hF.slot 4 (by kernel_rfl)) 30 _ (0, 0) _ ((Below.block hR _ hx0l).trans hx0) Tryd.underlying30 rfl (by rw [size30]; rfl)) (BR.refl _) ?_
            exact congrArg (fun v => [v]) (slotOf_same act 13 _ (by omega))
          | 1, ho, hD =>
            cases ho
            have e1 := slot_tmps (show slotOf act 1 = i64 s from hF.slot 1 (by kernel_rfl))
            refine rgw_val (wanted_none rfl) (i64 s) (by simp [go_sem, e1]) (BR.refl _) ?_
            exact congrArg (fun v => [v]) (slotOf_same act 14 _ (by omega))
          | 2, ho, hD =>
            cases ho
            have e14 := slot_tmps (List.cons.inj (hD 1 (by decide))).1
            refine rgw_call (wanted_none rfl) 87 #[i64 s] (by simp [go_sem, e14]) rfl ?_
            refine (isShoreR_any _ _).mono ?_
            rintro e wB ⟨rfl, rfl⟩
            rw [hq0.out]
            exact ⟨_, rfl, BR.refl _, congrArg (fun v => [v]) (slotOf_same act 15 _ (by omega))⟩
          | 3, ho, hD =>
            cases ho
            have e15 := slot_tmps (List.cons.inj (hD 2 (by decide))).1
            refine rgw_val (wanted_none rfl) (.bool true) (by simp [go_sem, e15]) (BR.refl _) ?_
            exact congrArg (fun v => [v]) (slotOf_same act 16 _ (by omega))
          | 4, ho, hD =>
            cases ho
            have dj : slotOf act 16 = .bool true := (List.cons.inj (hD 3 (by decide))).1
            have e4 := slot_tmps (show slotOf act 4 = .pointer (some ⟨w.heap.size, 0, none⟩) from hF.slot 4 (by kernel_rfl))
            refine rgw_val (by rw [wanted_of (d := 16) rfl rfl dj]; rfl) (.agg (bookCells B ta tc sa sc)) (by exact ex_load_row (a := act) 30 (.tmp 4) rfl w.heap.size (show slotOf act 4 = .pointer (some ⟨w.heap.size, 0, none⟩) from hF.slot 4 (by kernel_rfl)) 30 _ (0, 0) _ ((Below.block hR _ hx0l).trans hx0) Tryd.underlying30 rfl (by rw [size30]; rfl)) (BR.refl _) ?_
            exact congrArg (fun v => [v]) (slotOf_same act 17 _ (by omega))
          | 5, ho, hD =>
            cases ho
            have dj : slotOf act 16 = .bool true := (List.cons.inj (hD 3 (by decide))).1
            have e2 := slot_tmps (show slotOf act 2 = i64 hr from hF.slot 2 (by kernel_rfl))
            refine rgw_val (by rw [wanted_of (d := 16) rfl rfl dj]; rfl) (i64 hr) (by simp [go_sem, e2]) (BR.refl _) ?_
            exact congrArg (fun v => [v]) (slotOf_same act 18 _ (by omega))
          | 6, ho, hD =>
            cases ho
            have dj : slotOf act 16 = .bool true := (List.cons.inj (hD 3 (by decide))).1
            have e17 := slot_tmps (List.cons.inj (hD 4 (by decide))).1
            have e18 := slot_tmps (List.cons.inj (hD 5 (by decide))).1
            refine rgw_call (by rw [wanted_of (d := 16) rfl rfl dj]; rfl) 86 #[bookVal B ta tc sa sc, i64 hr] (by simp [go_sem, e17, e18]) rfl ?_
            refine (isHourR_any B ta tc sa sc _ _ htl).mono ?_
            rintro e wB ⟨rfl, hb⟩
            rw [hq1.out]
            exact ⟨_, rfl, hb, congrArg (fun v => [v]) (slotOf_same act 19 _ (by omega))⟩
          | 7, ho, hD =>
            cases ho
            have e16 := slot_tmps (List.cons.inj (hD 3 (by decide))).1
            have e19 := slot_tmps (List.cons.inj (hD 6 (by decide))).1
            refine rgw_val (wanted_none rfl) (.bool true) (by simp [go_sem, e16, e19]) (BR.refl _) ?_
            exact congrArg (fun v => [v]) (slotOf_same act 20 _ (by omega))
          | 8, ho, hD =>
            cases ho
            have e20 := slot_tmps (List.cons.inj (hD 7 (by decide))).1
            refine rgw_val (wanted_none rfl) (.bool true) (by simp [go_sem, e20]) (BR.refl _) ?_
            exact congrArg (fun v => [v]) (slotOf_same act 21 _ (by omega))
          | 9, ho, hD =>
            cases ho
            have dj : slotOf act 21 = .bool true := (List.cons.inj (hD 8 (by decide))).1
            have e3 := slot_tmps (show slotOf act 3 = i64 ld from hF.slot 3 (by kernel_rfl))
            refine rgw_val (by rw [wanted_of (d := 21) rfl rfl dj]; rfl) (i64 ld) (by simp [go_sem, e3]) (BR.refl _) ?_
            exact congrArg (fun v => [v]) (slotOf_same act 22 _ (by omega))
          | 10, ho, hD =>
            cases ho
            have dj : slotOf act 21 = .bool true := (List.cons.inj (hD 8 (by decide))).1
            have e22 := slot_tmps (List.cons.inj (hD 9 (by decide))).1
            refine rgw_call (by rw [wanted_of (d := 21) rfl rfl dj]; rfl) 91 #[i64 ld] (by simp [go_sem, e22]) rfl ?_
            refine (isLoadR_any _ _).mono ?_
            rintro e wB ⟨rfl, rfl⟩
            rw [hq2.out]
            exact ⟨_, rfl, BR.refl _, congrArg (fun v => [v]) (slotOf_same act 23 _ (by omega))⟩
          | 11, ho, hD =>
            cases ho
            have e21 := slot_tmps (List.cons.inj (hD 8 (by decide))).1
            have e23 := slot_tmps (List.cons.inj (hD 10 (by decide))).1
            refine rgw_val (wanted_none rfl) (.bool false) (by simp [go_sem, e21, e23]) (BR.refl _) ?_
            exact congrArg (fun v => [v]) (slotOf_same act 24 _ (by omega))
          | 12, ho, hD =>
            cases ho
            have e13 := slot_tmps (List.cons.inj (hD 0 (by decide))).1
            have e24 := slot_tmps (List.cons.inj (hD 11 (by decide))).1
            refine rgw_call (wanted_none rfl) 88 #[bookVal B ta tc sa sc, .bool false] (by simp [go_sem, e13, e24]) rfl ?_
            refine (askedR_v (hB0.below hR) false).mono ?_
            rintro e wB ⟨b, a, l, c, rfl, hb, hC, hl⟩
            exact ⟨_, rfl, hb, b, a, l, c, congrArg (fun v => [v]) (slotOf_same act 25 _ (by omega)), hC, hl⟩
          | 13, ho, hD =>
            cases ho
            obtain ⟨b, a, l, c, dt, hC, hl⟩ := hD 12 (by decide)
            have es := slot_tmps (List.cons.inj dt).1
            refine rgw_val (wanted_none rfl) (.tuple #[.slice a (List.length l) c, i64 (askE B false)]) (by simp [go_sem, es]) (BR.refl _) ?_
            exact ⟨b, a, l, c, congrArg (fun v => [v]) (slotOf_same act 12 _ (by omega)), hC, hl⟩
          | 14, ho, hD =>
            cases ho
            obtain ⟨b, a, l, c, dt, hC, hl⟩ := hD 13 (by decide)
            have es := slot_tmps (List.cons.inj dt).1
            refine rgw_val (wanted_none rfl) (.slice a (List.length l) c) (by simp [go_sem, es]) (BR.refl _) ?_
            exact ⟨b, a, l, c, congrArg (fun v => [v]) (slotOf_same act 26 _ (by omega)), hC, hl⟩
          | 15, ho, hD =>
            cases ho
            obtain ⟨b, a, l, c, dt, hC, hl⟩ := hD 13 (by decide)
            have es := slot_tmps (List.cons.inj dt).1
            refine rgw_val (wanted_none rfl) (i64 (askE B false)) (by simp [go_sem, es]) (BR.refl _) ?_
            exact congrArg (fun v => [v]) (slotOf_same act 27 _ (by omega))
          | 16, ho, hD =>
            cases ho
            obtain ⟨b, a, l, c, dt, hC, hl⟩ := hD 14 (by decide)
            have es := slot_tmps (List.cons.inj dt).1
            refine rgw_val (wanted_none rfl) (.slice a (List.length l) c) (by simp [go_sem, es]) (BR.refl _) ?_
            exact ⟨b, a, l, c, congrArg (fun v => [v]) (slotOf_same act 10 _ (by omega)), hC, hl⟩
          | 17, ho, hD =>
            cases ho
            have e27 := slot_tmps (List.cons.inj (hD 15 (by decide))).1
            refine rgw_val (wanted_none rfl) (i64 (askE B false)) (by simp [go_sem, e27]) (BR.refl _) ?_
            exact congrArg (fun v => [v]) (slotOf_same act 11 _ (by omega))
          | _ + 18, ho, _ => cases ho
        · intro act wA hR hF hA
          have f1 : slotOf act 1 = i64 s := hF.slot 1 (by kernel_rfl)
          have f2 : slotOf act 2 = i64 hr := hF.slot 2 (by kernel_rfl)
          have f3 : slotOf act 3 = i64 ld := hF.slot 3 (by kernel_rfl)
          have f4 : slotOf act 4 = .pointer (some ⟨w.heap.size, 0, none⟩) := hF.slot 4 (by kernel_rfl)
          have f8 : slotOf act 8 = i64 0 := hF.slot 8 (by kernel_rfl)
          have f9 : slotOf act 9 = i64 0 := hF.slot 9 (by kernel_rfl)
          obtain ⟨lb, la, l, lc, d10, hC, hl⟩ := hA 16 (by decide)
          have f10 : slotOf act 10 = .slice la l.length lc := (List.cons.inj d10).1
          have f11 : slotOf act 11 = i64 (askE B false) := (List.cons.inj (hA 17 (by decide))).1
          have f13 : slotOf act 13 = .agg (bookCells B ta tc sa sc) := (List.cons.inj (hA 0 (by decide))).1
          have f14 : slotOf act 14 = i64 s := (List.cons.inj (hA 1 (by decide))).1
          have f15 : slotOf act 15 = .bool true := (List.cons.inj (hA 2 (by decide))).1
          have f16 : slotOf act 16 = .bool true := (List.cons.inj (hA 3 (by decide))).1
          have f17 : slotOf act 17 = .agg (bookCells B ta tc sa sc) := (List.cons.inj (hA 4 (by decide))).1
          have f18 : slotOf act 18 = i64 hr := (List.cons.inj (hA 5 (by decide))).1
          have f19 : slotOf act 19 = .bool true := (List.cons.inj (hA 6 (by decide))).1
          have f20 : slotOf act 20 = .bool true := (List.cons.inj (hA 7 (by decide))).1
          have f21 : slotOf act 21 = .bool true := (List.cons.inj (hA 8 (by decide))).1
          have f22 : slotOf act 22 = i64 ld := (List.cons.inj (hA 9 (by decide))).1
          have f23 : slotOf act 23 = .bool false := (List.cons.inj (hA 10 (by decide))).1
          have f24 : slotOf act 24 = .bool false := (List.cons.inj (hA 11 (by decide))).1
          have f27 : slotOf act 27 = i64 (askE B false) := (List.cons.inj (hA 15 (by decide))).1
          rw [act_eta act 37 hF.size hF.defers]
          simp only [show List.range 37 = [0, 1, 2, 3, 4, 5, 6, 7, 8, 9, 10, 11, 12, 13, 14, 15, 16, 17, 18, 19, 20, 21, 22, 23, 24, 25, 26, 27, 28, 29, 30, 31, 32, 33, 34, 35, 36] from rfl, List.map_cons, List.map_nil, f1, f2, f3, f4, f8, f9, f10, f11, f13, f14, f15, f16, f17, f18, f19, f20, f21, f22, f23, f24, f27]
          clear hA hF f1 f2 f3 f4 f8 f9 f10 f11 f13 f14 f15 f16 f17 f18 f19 f20 f21 f22 f23 f24 f27
          have hbA := hb0.trans (Below.mono hR hb0.size)
          clear hR
          go_wp2_with fail
          refine bodyPost_ret (results_tmp2 rfl _ _) rfl ⟨by rw [hfin.out]; rfl, hbA⟩
      · replace hq2 := Lib.hid hq2
        go_enter Tryd.func63, Tryd.ntmps63
        go_wp2_with fail
        refine rg_region rdLd3t pureLd3t (gLd3t B ta tc sa sc s hr ld) BR (by kernel_rfl) (by kernel_rfl) (fun n => BR.drawn _ n) BR.refl (fun _ _ _ => BR.trans) ?_ ?_ ?_
        · intro i hi vs wA wB hG hR
          match i, hi, hG with
          | 0, _, hG => exact hG
          | 1, _, hG => exact hG
          | 2, _, hG => exact hG
          | 3, _, hG => exact hG
          | 4, _, hG => exact hG
          | 5, _, hG => exact hG
          | 6, _, hG => exact hG
          | 7, _, hG => exact hG
          | 8, _, hG => exact hG
          | 9, _, hG => exact hG
          | 10, _, hG => exact hG
          | 11, _, hG => exact hG
          | 12, _, hG => obtain ⟨b, a, l, c, h1, h2, h3⟩ := hG; exact ⟨b, a, l, c, h1, (h2.same (Same.of_below hR)).up (Below.size hR), h3⟩
          | 13, _, hG => obtain ⟨b, a, l, c, h1, h2, h3⟩ := hG; exact ⟨b, a, l, c, h1, (h2.same (Same.of_below hR)).up (Below.size hR), h3⟩
          | 14, _, hG => obtain ⟨b, a, l, c, h1, h2, h3⟩ := hG; exact ⟨b, a, l, c, h1, (h2.same (Same.of_below hR)).up (Below.size hR), h3⟩
          | 15, _, hG => exact hG
          | 16, _, hG => obtain ⟨b, a, l, c, h1, h2, h3⟩ := hG; exact ⟨b, a, l, c, h1, (h2.same (Same.of_below hR)).up (Below.size hR), h3⟩
          | 17, _, hG => exact hG
          | _ + 18, _, _ => trivial
        · intro i op ho act wA hR hF hD
          have sz : act.tmps.size = 37 := hF.size
          match i, ho, hD with
          | 0, ho, hD =>
            cases ho
            have e4 := slot_tmps (show slotOf act 4 = .pointer (some ⟨w.heap.size, 0, none⟩) from hF.slot 4 (by kernel_rfl))
            refine rgw_val (wanted_none rfl) (.agg (bookCells B ta tc sa sc)) (by exact ex_load_row (a := act) 30 (.tmp 4) rfl w.heap.size (show slotOf act 4 = .pointer (some ⟨w.heap.size, 0, none⟩) from hF.slot 4 (by kernel_rfl)) 30 _ (0, 0) _ ((Below.block hR _ hx0l).trans hx0) Tryd.underlying30 rfl (by rw [size30]; rfl)) (BR.refl _) ?_
            exact congrArg (fun v => [v]) (slotOf_same act 13 _ (by omega))
          | 1, ho, hD =>
            cases ho
            have e1 := slot_tmps (show slotOf act 1 = i64 s from hF.slot 1 (by kernel_rfl))
            refine rgw_val (wanted_none rfl) (i64 s) (by simp [go_sem, e1]) (BR.refl _) ?_
            exact congrArg (fun v => [v]) (slotOf_same act 14 _ (by omega))
          | 2, ho, hD =>
            cases ho
            have e14 := slot_tmps (List.cons.inj (hD 1 (by decide))).1
            refine rgw_call (wanted_none rfl) 87 #[i64 s] (by simp [go_sem, e14]) rfl ?_
            refine (isShoreR_any _ _).mono ?_
            rintro e wB ⟨rfl, rfl⟩
            rw [hq0.out]
            exact ⟨_, rfl, BR.refl _, congrArg (fun v => [v]) (slotOf_same act 15 _ (by omega))⟩
          | 3, ho, hD =>
            cases ho
            have e15 := slot_tmps (List.cons.inj (hD 2 (by decide))).1
            refine rgw_val (wanted_none rfl) (.bool true) (by simp [go_sem, e15]) (BR.refl _) ?_
            exact congrArg (fun v => [v]) (slotOf_same act 16 _ (by omega))
          | 4, ho, hD =>
            cases ho
            have dj : slotOf act 16 = .bool true := (List.cons.inj (hD 3 (by decide))).1
            have e4 := slot_tmps (show slotOf act 4 = .pointer (some ⟨w.heap.size, 0, none⟩) from hF.slot 4 (by kernel_rfl))
            refine rgw_val (by rw [wanted_of (d := 16) rfl rfl dj]; rfl) (.agg (bookCells B ta tc sa sc)) (by exact ex_load_row (a := act) 30 (.tmp 4) rfl w.heap.size (show slotOf act 4 = .pointer (some ⟨w.heap.size, 0, none⟩) from hF.slot 4 (by kernel_rfl)) 30 _ (0, 0) _ ((Below.block hR _ hx0l).trans hx0) Tryd.underlying30 rfl (by rw [size30]; rfl)) (BR.refl _) ?_
            exact congrArg (fun v => [v]) (slotOf_same act 17 _ (by omega))
          | 5, ho, hD =>
            cases ho
            have dj : slotOf act 16 = .bool true := (List.cons.inj (hD 3 (by decide))).1
            have e2 := slot_tmps (show slotOf act 2 = i64 hr from hF.slot 2 (by kernel_rfl))
            refine rgw_val (by rw [wanted_of (d := 16) rfl rfl dj]; rfl) (i64 hr) (by simp [go_sem, e2]) (BR.refl _) ?_
            exact congrArg (fun v => [v]) (slotOf_same act 18 _ (by omega))
          | 6, ho, hD =>
            cases ho
            have dj : slotOf act 16 = .bool true := (List.cons.inj (hD 3 (by decide))).1
            have e17 := slot_tmps (List.cons.inj (hD 4 (by decide))).1
            have e18 := slot_tmps (List.cons.inj (hD 5 (by decide))).1
            refine rgw_call (by rw [wanted_of (d := 16) rfl rfl dj]; rfl) 86 #[bookVal B ta tc sa sc, i64 hr] (by simp [go_sem, e17, e18]) rfl ?_
            refine (isHourR_any B ta tc sa sc _ _ htl).mono ?_
            rintro e wB ⟨rfl, hb⟩
            rw [hq1.out]
            exact ⟨_, rfl, hb, congrArg (fun v => [v]) (slotOf_same act 19 _ (by omega))⟩
          | 7, ho, hD =>
            cases ho
            have e16 := slot_tmps (List.cons.inj (hD 3 (by decide))).1
            have e19 := slot_tmps (List.cons.inj (hD 6 (by decide))).1
            refine rgw_val (wanted_none rfl) (.bool true) (by simp [go_sem, e16, e19]) (BR.refl _) ?_
            exact congrArg (fun v => [v]) (slotOf_same act 20 _ (by omega))
          | 8, ho, hD =>
            cases ho
            have e20 := slot_tmps (List.cons.inj (hD 7 (by decide))).1
            refine rgw_val (wanted_none rfl) (.bool true) (by simp [go_sem, e20]) (BR.refl _) ?_
            exact congrArg (fun v => [v]) (slotOf_same act 21 _ (by omega))
          | 9, ho, hD =>
            cases ho
            have dj : slotOf act 21 = .bool true := (List.cons.inj (hD 8 (by decide))).1
            have e3 := slot_tmps (show slotOf act 3 = i64 ld from hF.slot 3 (by kernel_rfl))
            refine rgw_val (by rw [wanted_of (d := 21) rfl rfl dj]; rfl) (i64 ld) (by simp [go_sem, e3]) (BR.refl _) ?_
            exact congrArg (fun v => [v]) (slotOf_same act 22 _ (by omega))
          | 10, ho, hD =>
            cases ho
            have dj : slotOf act 21 = .bool true := (List.cons.inj (hD 8 (by decide))).1
            have e22 := slot_tmps (List.cons.inj (hD 9 (by decide))).1
            refine rgw_call (by rw [wanted_of (d := 21) rfl rfl dj]; rfl) 91 #[i64 ld] (by simp [go_sem, e22]) rfl ?_
            refine (isLoadR_any _ _).mono ?_
            rintro e wB ⟨rfl, rfl⟩
            rw [hq2.out]
            exact ⟨_, rfl, BR.refl _, congrArg (fun v => [v]) (slotOf_same act 23 _ (by omega))⟩
          | 11, ho, hD =>
            cases ho
            have e21 := slot_tmps (List.cons.inj (hD 8 (by decide))).1
            have e23 := slot_tmps (List.cons.inj (hD 10 (by decide))).1
            refine rgw_val (wanted_none rfl) (.bool true) (by simp [go_sem, e21, e23]) (BR.refl _) ?_
            exact congrArg (fun v => [v]) (slotOf_same act 24 _ (by omega))
          | 12, ho, hD =>
            cases ho
            have e13 := slot_tmps (List.cons.inj (hD 0 (by decide))).1
            have e24 := slot_tmps (List.cons.inj (hD 11 (by decide))).1
            refine rgw_call (wanted_none rfl) 88 #[bookVal B ta tc sa sc, .bool true] (by simp [go_sem, e13, e24]) rfl ?_
            refine (askedR_v (hB0.below hR) true).mono ?_
            rintro e wB ⟨b, a, l, c, rfl, hb, hC, hl⟩
            exact ⟨_, rfl, hb, b, a, l, c, congrArg (fun v => [v]) (slotOf_same act 25 _ (by omega)), hC, hl⟩
          | 13, ho, hD =>
            cases ho
            obtain ⟨b, a, l, c, dt, hC, hl⟩ := hD 12 (by decide)
            have es := slot_tmps (List.cons.inj dt).1
            refine rgw_val (wanted_none rfl) (.tuple #[.slice a (List.length l) c, i64 (askE B true)]) (by simp [go_sem, es]) (BR.refl _) ?_
            exact ⟨b, a, l, c, congrArg (fun v => [v]) (slotOf_same act 12 _ (by omega)), hC, hl⟩
          | 14, ho, hD =>
            cases ho
            obtain ⟨b, a, l, c, dt, hC, hl⟩ := hD 13 (by decide)
            have es := slot_tmps (List.cons.inj dt).1
            refine rgw_val (wanted_none rfl) (.slice a (List.length l) c) (by simp [go_sem, es]) (BR.refl _) ?_
            exact ⟨b, a, l, c, congrArg (fun v => [v]) (slotOf_same act 26 _ (by omega)), hC, hl⟩
          | 15, ho, hD =>
            cases ho
            obtain ⟨b, a, l, c, dt, hC, hl⟩ := hD 13 (by decide)
            have es := slot_tmps (List.cons.inj dt).1
            refine rgw_val (wanted_none rfl) (i64 (askE B true)) (by simp [go_sem, es]) (BR.refl _) ?_
            exact congrArg (fun v => [v]) (slotOf_same act 27 _ (by omega))
          | 16, ho, hD =>
            cases ho
            obtain ⟨b, a, l, c, dt, hC, hl⟩ := hD 14 (by decide)
            have es := slot_tmps (List.cons.inj dt).1
            refine rgw_val (wanted_none rfl) (.slice a (List.length l) c) (by simp [go_sem, es]) (BR.refl _) ?_
            exact ⟨b, a, l, c, congrArg (fun v => [v]) (slotOf_same act 10 _ (by omega)), hC, hl⟩
          | 17, ho, hD =>
            cases ho
            have e27 := slot_tmps (List.cons.inj (hD 15 (by decide))).1
            refine rgw_val (wanted_none rfl) (i64 (askE B true)) (by simp [go_sem, e27]) (BR.refl _) ?_
            exact congrArg (fun v => [v]) (slotOf_same act 11 _ (by omega))
          | _ + 18, ho, _ => cases ho
        · intro act wA hR hF hA
          have f1 : slotOf act 1 = i64 s := hF.slot 1 (by kernel_rfl)
          have f2 : slotOf act 2 = i64 hr := hF.slot 2 (by kernel_rfl)
          have f3 : slotOf act 3 = i64 ld := hF.slot 3 (by kernel_rfl)
          have f4 : slotOf act 4 = .pointer (some ⟨w.heap.size, 0, none⟩) := hF.slot 4 (by kernel_rfl)
          have f8 : slotOf act 8 = i64 0 := hF.slot 8 (by kernel_rfl)
          have f9 : slotOf act 9 = i64 0 := hF.slot 9 (by kernel_rfl)
          obtain ⟨lb, la, l, lc, d10, hC, hl⟩ := hA 16 (by decide)
          have f10 : slotOf act 10 = .slice la l.length lc := (List.cons.inj d10).1
          have f11 : slotOf act 11 = i64 (askE B true) := (List.cons.inj (hA 17 (by decide))).1
          have f13 : slotOf act 13 = .agg (bookCells B ta tc sa sc) := (List.cons.inj (hA 0 (by decide))).1
          have f14 : slotOf act 14 = i64 s := (List.cons.inj (hA 1 (by decide))).1
          have f15 : slotOf act 15 = .bool true := (List.cons.inj (hA 2 (by decide))).1
          have f16 : slotOf act 16 = .bool true := (List.cons.inj (hA 3 (by decide))).1
          have f17 : slotOf act 17 = .agg (bookCells B ta tc sa sc) := (List.cons.inj (hA 4 (by decide))).1
          have f18 : slotOf act 18 = i64 hr := (List.cons.inj (hA 5 (by decide))).1
          have f19 : slotOf act 19 = .bool true := (List.cons.inj (hA 6 (by decide))).1
          have f20 : slotOf act 20 = .bool true := (List.cons.inj (hA 7 (by decide))).1
          have f21 : slotOf act 21 = .bool true := (List.cons.inj (hA 8 (by decide))).1
          have f22 : slotOf act 22 = i64 ld := (List.cons.inj (hA 9 (by decide))).1
          have f23 : slotOf act 23 = .bool true := (List.cons.inj (hA 10 (by decide))).1
          have f24 : slotOf act 24 = .bool true := (List.cons.inj (hA 11 (by decide))).1
          have f27 : slotOf act 27 = i64 (askE B true) := (List.cons.inj (hA 15 (by decide))).1
          rw [act_eta act 37 hF.size hF.defers]
          simp only [show List.range 37 = [0, 1, 2, 3, 4, 5, 6, 7, 8, 9, 10, 11, 12, 13, 14, 15, 16, 17, 18, 19, 20, 21, 22, 23, 24, 25, 26, 27, 28, 29, 30, 31, 32, 33, 34, 35, 36] from rfl, List.map_cons, List.map_nil, f1, f2, f3, f4, f8, f9, f10, f11, f13, f14, f15, f16, f17, f18, f19, f20, f21, f22, f23, f24, f27]
          clear hA hF f1 f2 f3 f4 f8 f9 f10 f11 f13 f14 f15 f16 f17 f18 f19 f20 f21 f22 f23 f24 f27
          by_cases ha : askE B true = 0
          · obtain rfl := hl ha
            have hne : (askE B true != 0) = false := by rw [ha]; rfl
            have hVd := valid_iff.1 (ask_zero ha).1
            have hcc : ∃ f, CC B [] f := (ask_cases (ask_zero ha).1).elim (fun h => by rw [h.2] at ha; cases ha) (fun h => h.1)
            have hxA := (Below.block hR _ hx0l).trans hx0
            have hxAl := (Array.getElem?_eq_some_iff.1 hxA).1
            have hbA := hb0.trans (Below.mono hR hb0.size)
            have hBA := hB0.below hR
            have hoks := landsR_o hq0.out hq1.out hq2.out ha
            have haH := Lib.hid ha
            clear ha hR
            have q := qs_of hq0.out hq1.out hq2.out
            go_wp2_with (refine ld30 rfl _ rfl _ _ rfl hxA rfl ?_)
            refine (lands92_v hBA hC hVd hcc hq0.out q.h0 q.h1 q.l0 q.l1).mono ?_
            rintro e w2 ⟨rfl, hb2⟩
            have hb3 := hbA.trans (hb2.mono hbA.size)
            go_wp2_with fail
            refine bodyPost_ret (results_tmp2 rfl _ _) rfl ⟨by rw [hoks.out]; rfl, hb3⟩
          · have hne : (askE B true != 0) = true := by simpa using ha
            have hfin := landsR_e hq0.out hq1.out hq2.out ha
            clear ha
            have hbA := hb0.trans (Below.mono hR hb0.size)
            clear hR
            go_wp2_with fail
            refine bodyPost_ret (results_tmp2 rfl _ _) rfl ⟨by rw [hfin.out]; rfl, hbA⟩
theorem landsRefq_v {B : Book} {v : Value} {w : World} (hB : BookV w v B) (s hr ld : Int) : Calls Tryd.prog 63 #[v, i64 s, i64 hr, i64 ld] w (LandsRPost B s hr ld w) := by
  obtain ⟨tb, tq, ta, tc, sb, sq, sa, sc, rfl, hT, hS⟩ := hB
  exact landsRefq_any B ta tc sa sc s hr ld w ⟨tb, tq, ta, tc, sb, sq, sa, sc, rfl, hT, hS⟩ hT.len
set_option maxRecDepth 100000 in
set_option maxHeartbeats 8000000 in
theorem mostRef_any (B : Book) (ta : Option Addr) (tc : Nat) (sa : Option Addr) (sc : Nat) (s hr : Int) (w : World) (hB : BookV w (bookVal B ta tc sa sc) B) (htl : B.tides.length * 16 ≤ 140737488351232) : Calls Tryd.prog 64 #[bookVal B ta tc sa sc, i64 s, i64 hr] w (MostPost B s hr w) := by
  have hb0 : Below w.heap.size w (w.alloc (.cells (bookCells B ta tc sa sc) 30)) := (Below.refl _ w).alloc (Nat.le_refl _) _
  have hx0 : (w.alloc (.cells (bookCells B ta tc sa sc) 30)).heap[w.heap.size]? = some (.cells (bookCells B ta tc sa sc) 30 (0, 0)) := heap_alloc_new w _
  have hx0l := (Array.getElem?_eq_some_iff.1 hx0).1
  have hB0 := hB.below hb0
  cases hq0 : inB s 0 1
  · replace hq0 := Lib.hid hq0
    have hne : (askE B false != 0) = true := ask_false_ne B
    have hfin := mostR_f0 (B := B) (hr := hr) hq0.out
    go_enter Tryd.func64, Tryd.ntmps64
    go_wp2_with fail
    refine rg_region rdMo1f pureMo1f (gMo1f B ta tc sa sc s) BR (by kernel_rfl) (by kernel_rfl) (fun n => BR.drawn _ n) BR.refl (fun _ _ _ => BR.trans) ?_ ?_ ?_
    · intro i hi vs wA wB hG hR
      match i, hi, hG with
      | 0, _, hG => exact hG
      | 1, _, hG => exact hG
      | 2, _, hG => exact hG
      | 3, _, hG => exact hG
      | 4, _, _ => trivial
      | 5, _, _ => trivial
      | 6, _, _ => trivial
      | 7, _, hG => exact hG
      | 8, _, hG => obtain ⟨b, a, l, c, h1, h2, h3⟩ := hG; exact ⟨b, a, l, c, h1, (h2.same (Same.of_below hR)).up (Below.size hR), h3⟩
      | 9, _, hG => obtain ⟨b, a, l, c, h1, h2, h3⟩ := hG; exact ⟨b, a, l, c, h1, (h2.same (Same.of_below hR)).up (Below.size hR), h3⟩
      | 10, _, hG => obtain ⟨b, a, l, c, h1, h2, h3⟩ := hG; exact ⟨b, a, l, c, h1, (h2.same (Same.of_below hR)).up (Below.size hR), h3⟩
      | 11, _, hG => exact hG
      | 12, _, hG => obtain ⟨b, a, l, c, h1, h2, h3⟩ := hG; exact ⟨b, a, l, c, h1, (h2.same (Same.of_below hR)).up (Below.size hR), h3⟩
      | 13, _, hG => exact hG
      | _ + 14, _, _ => trivial
    · intro i op ho act wA hR hF hD
      have sz : act.tmps.size = 38 := hF.size
      match i, ho, hD with
      | 0, ho, hD =>
        cases ho
        have e3 := slot_tmps (show slotOf act 3 = .pointer (some ⟨w.heap.size, 0, none⟩) from hF.slot 3 (by kernel_rfl))
        refine rgw_val (wanted_none rfl) (.agg (bookCells B ta tc sa sc)) (by exact ex_load_row (a := act) 30 (.tmp 3) rfl w.heap.size (show slotOf act 3 = .pointer (some ⟨w.heap.size, 0, none⟩) from hF.slot 3 (by kernel_rfl)) 30 _ (0, 0) _ ((Below.block hR _ hx0l).trans hx0) Tryd.underlying30 rfl (by rw [size30]; rfl)) (BR.refl _) ?_
        exact congrArg (fun v => [v]) (slotOf_same act 12 _ (by omega))
      | 1, ho, hD =>
        cases ho
        have e1 := slot_tmps (show slotOf act 1 = i64 s from hF.slot 1 (by kernel_rfl))
        refine rgw_val (wanted_none rfl) (i64 s) (by simp [go_sem, e1]) (BR.refl _) ?_
        exact congrArg (fun v => [v]) (slotOf_same act 13 _ (by omega))
      | 2, ho, hD =>
        cases ho
        have e13 := slot_tmps (List.cons.inj (hD 1 (by decide))).1
        refine rgw_call (wanted_none rfl) 87 #[i64 s] (by simp [go_sem, e13]) rfl ?_
        refine (isShoreR_any _ _).mono ?_
        rintro e wB ⟨rfl, rfl⟩
        rw [hq0.out]
        exact ⟨_, rfl, BR.refl _, congrArg (fun v => [v]) (slotOf_same act 14 _ (by omega))⟩
      | 3, ho, hD =>
        cases ho
        have e14 := slot_tmps (List.cons.inj (hD 2 (by decide))).1
        refine rgw_val (wanted_none rfl) (.bool false) (by simp [go_sem, e14]) (BR.refl _) ?_
        exact congrArg (fun v => [v]) (slotOf_same act 15 _ (by omega))
      | 4, ho, hD =>
        cases ho
        have dj : slotOf act 15 = .bool false := (List.cons.inj (hD 3 (by decide))).1
        refine rgw_skip (by rw [wanted_of (d := 15) rfl rfl dj]; rfl) ?_
        trivial
      | 5, ho, hD =>
        cases ho
        have dj : slotOf act 15 = .bool false := (List.cons.inj (hD 3 (by decide))).1
        refine rgw_skip (by rw [wanted_of (d := 15) rfl rfl dj]; rfl) ?_
        trivial
      | 6, ho, hD =>
        cases ho
        have dj : slotOf act 15 = .bool false := (List.cons.inj (hD 3 (by decide))).1
        refine rgw_skip (by rw [wanted_of (d := 15) rfl rfl dj]; rfl) ?_
        trivial
      | 7, ho, hD =>
        cases ho
        have e15 := slot_tmps (List.cons.inj (hD 3 (by decide))).1
        refine rgw_val (wanted_none rfl) (.bool false) (by simp [go_sem, e15]) (BR.refl _) ?_
        exact congrArg (fun v => [v]) (slotOf_same act 19 _ (by omega))
      | 8, ho, hD =>
        cases ho
        have e12 := slot_tmps (List.cons.inj (hD 0 (by decide))).1
        have e19 := slot_tmps (List.cons.inj (hD 7 (by decide))).1
        refine rgw_call (wanted_none rfl) 88 #[bookVal B ta tc sa sc, .bool false] (by simp [go_sem, e12, e19]) rfl ?_
        refine (askedR_v (hB0.below hR) false).mono ?_
        rintro e wB ⟨b, a, l, c, rfl, hb, hC, hl⟩
        exact ⟨_, rfl, hb, b, a, l, c, congrArg (fun v => [v]) (slotOf_same act 20 _ (by omega)), hC, hl⟩
      | 9, ho, hD =>
        cases ho
        obtain ⟨b, a, l, c, dt, hC, hl⟩ := hD 8 (by decide)
        have es := slot_tmps (List.cons.inj dt).1
        refine rgw_val (wanted_none rfl) (.tuple #[.slice a (List.length l) c, i64 (askE B false)]) (by simp [go_sem, es]) (BR.refl _) ?_
        exact ⟨b, a, l, c, congrArg (fun v => [v]) (slotOf_same act 11 _ (by omega)), hC, hl⟩
      | 10, ho, hD =>
        cases ho
        obtain ⟨b, a, l, c, dt, hC, hl⟩ := hD 9 (by decide)
        have es := slot_tmps (List.cons.inj dt).1
        refine rgw_val (wanted_none rfl) (.slice a (List.length l) c) (by simp [go_sem, es]) (BR.refl _) ?_
        exact ⟨b, a, l, c, congrArg (fun v => [v]) (slotOf_same act 21 _ (by omega)), hC, hl⟩
      | 11, ho, hD =>
        cases ho
        obtain ⟨b, a, l, c, dt, hC, hl⟩ := hD 9 (by decide)
        have es := slot_tmps (List.cons.inj dt).1
        refine rgw_val (wanted_none rfl) (i64 (askE B false)) (by simp [go_sem, es]) (BR.refl _) ?_
        exact congrArg (fun v => [v]) (slotOf_same act 22 _ (by omega))
      | 12, ho, hD =>
        cases ho
        obtain ⟨b, a, l, c, dt, hC, hl⟩ := hD 10 (by decide)
        have es := slot_tmps (List.cons.inj dt).1
        refine rgw_val (wanted_none rfl) (.slice a (List.length l) c) (by simp [go_sem, es]) (BR.refl _) ?_
        exact ⟨b, a, l, c, congrArg (fun v => [v]) (slotOf_same act 8 _ (by omega)), hC, hl⟩
      | 13, ho, hD =>
        cases ho
        have e22 := slot_tmps (List.cons.inj (hD 11 (by decide))).1
        refine rgw_val (wanted_none rfl) (i64 (askE B false)) (by simp [go_sem, e22]) (BR.refl _) ?_
        exact congrArg (fun v => [v]) (slotOf_same act 9 _ (by omega))
      | _ + 14, ho, _ => cases ho
    · intro act wA hR hF hA
      have f1 : slotOf act 1 = i64 s := hF.slot 1 (by kernel_rfl)
      have f2 : slotOf act 2 = i64 hr := hF.slot 2 (by kernel_rfl)
      have f3 : slotOf act 3 = .pointer (some ⟨w.heap.size, 0, none⟩) := hF.slot 3 (by kernel_rfl)
      have f6 : slotOf act 6 = i64 0 := hF.slot 6 (by kernel_rfl)
      have f7 : slotOf act 7 = i64 0 := hF.slot 7 (by kernel_rfl)
      obtain ⟨lb, la, l, lc, d8, hC, hl⟩ := hA 12 (by decide)
      have f8 : slotOf act 8 = .slice la l.length lc := (List.cons.inj d8).1
      have f9 : slotOf act 9 = i64 (askE B false) := (List.cons.inj (hA 13 (by decide))).1
      have f12 : slotOf act 12 = .agg (bookCells B ta tc sa sc) := (List.cons.inj (hA 0 (by decide))).1
      have f13 : slotOf act 13 = i64 s := (List.cons.inj (hA 1 (by decide))).1
      have f14 : slotOf act 14 = .bool false := (List.cons.inj (hA 2 (by decide))).1
      have f15 : slotOf act 15 = .bool false := (List.cons.inj (hA 3 (by decide))).1
      have f19 : slotOf act 19 = .bool false := (List.cons.inj (hA 7 (by decide))).1
      have f22 : slotOf act 22 = i64 (askE B false) := (List.cons.inj (hA 11 (by decide))).1
      rw [act_eta act 38 hF.size hF.defers]
      simp only [show List.range 38 = [0, 1, 2, 3, 4, 5, 6, 7, 8, 9, 10, 11, 12, 13, 14, 15, 16, 17, 18, 19, 20, 21, 22, 23, 24, 25, 26, 27, 28, 29, 30, 31, 32, 33, 34, 35, 36, 37] from rfl, List.map_cons, List.map_nil, f1, f2, f3, f6, f7, f8, f9, f12, f13, f14, f15, f19, f22]
      clear hA hF f1 f2 f3 f6 f7 f8 f9 f12 f13 f14 f15 f19 f22
      have hbA := hb0.trans (Below.mono hR hb0.size)
      clear hR
      go_wp2_with fail
      refine bodyPost_ret (results_tmp2 rfl _ _) rfl ⟨by rw [hfin.out]; rfl, hbA⟩
  · replace hq0 := Lib.hid hq0
    cases hq1 : hourB B hr
    · replace hq1 := Lib.hid hq1
      have hne : (askE B false != 0) = true := ask_false_ne B
      have hfin := mostR_f1 (s := s) hq1.out
      go_enter Tryd.func64, Tryd.ntmps64
      go_wp2_with fail
      refine rg_region rdMo2f pureMo2f (gMo2f B ta tc sa sc s hr) BR (by kernel_rfl) (by kernel_rfl) (fun n => BR.drawn _ n) BR.refl (fun _ _ _ => BR.trans) ?_ ?_ ?_
      · intro i hi vs wA wB hG hR
        match i, hi, hG with
        | 0, _, hG => exact hG
        | 1, _, hG => exact hG
        | 2, _, hG => exact hG
        | 3, _, hG => exact hG
        | 4, _, hG => exact hG
        | 5, _, hG => exact hG
        | 6, _, hG => exact hG
        | 7, _, hG => exact hG
        | 8, _, hG => obtain ⟨b, a, l, c, h1, h2, h3⟩ := hG; exact ⟨b, a, l, c, h1, (h2.same (Same.of_below hR)).up (Below.size hR), h3⟩
        | 9, _, hG => obtain ⟨b, a, l, c, h1, h2, h3⟩ := hG; exact ⟨b, a, l, c, h1, (h2.same (Same.of_below hR)).up (Below.size hR), h3⟩
        | 10, _, hG => obtain ⟨b, a, l, c, h1, h2, h3⟩ := hG; exact ⟨b, a, l, c, h1, (h2.same (Same.of_below hR)).up (Below.size hR), h3⟩
        | 11, _, hG => exact hG
        | 12, _, hG => obtain ⟨b, a, l, c, h1, h2, h3⟩ := hG; exact ⟨b, a, l, c, h1, (h2.same (Same.of_below hR)).up (Below.size hR), h3⟩
        | 13, _, hG => exact hG
        | _ + 14, _, _ => trivial
      · intro i op ho act wA hR hF hD
        have sz : act.tmps.size = 38 := hF.size
        match i, ho, hD with
        | 0, ho, hD =>
          cases ho
          have e3 := slot_tmps (show slotOf act 3 = .pointer (some ⟨w.heap.size, 0, none⟩) from hF.slot 3 (by kernel_rfl))
          refine rgw_val (wanted_none rfl) (.agg (bookCells B ta tc sa sc)) (by exact ex_load_row (a := act) 30 (.tmp 3) rfl w.heap.size (show slotOf act 3 = .pointer (some ⟨w.heap.size, 0, none⟩) from hF.slot 3 (by kernel_rfl)) 30 _ (0, 0) _ ((Below.block hR _ hx0l).trans hx0) Tryd.underlying30 rfl (by rw [size30]; rfl)) (BR.refl _) ?_
          exact congrArg (fun v => [v]) (slotOf_same act 12 _ (by omega))
        | 1, ho, hD =>
          cases ho
          have e1 := slot_tmps (show slotOf act 1 = i64 s from hF.slot 1 (by kernel_rfl))
          refine rgw_val (wanted_none rfl) (i64 s) (by simp [go_sem, e1]) (BR.refl _) ?_
          exact congrArg (fun v => [v]) (slotOf_same act 13 _ (by omega))
        | 2, ho, hD =>
          cases ho
          have e13 := slot_tmps (List.cons.inj (hD 1 (by decide))).1
          refine rgw_call (wanted_none rfl) 87 #[i64 s] (by simp [go_sem, e13]) rfl ?_
          refine (isShoreR_any _ _).mono ?_
          rintro e wB ⟨rfl, rfl⟩
          rw [hq0.out]
          exact ⟨_, rfl, BR.refl _, congrArg (fun v => [v]) (slotOf_same act 14 _ (by omega))⟩
        | 3, ho, hD =>
          cases ho
          have e14 := slot_tmps (List.cons.inj (hD 2 (by decide))).1
          refine rgw_val (wanted_none rfl) (.bool true) (by simp [go_sem, e14]) (BR.refl _) ?_
          exact congrArg (fun v => [v]) (slotOf_same act 15 _ (by omega))
        | 4, ho, hD =>
          cases ho
          have dj : slotOf act 15 = .bool true := (List.cons.inj (hD 3 (by decide))).1
          have e3 := slot_tmps (show slotOf act 3 = .pointer (some ⟨w.heap.size, 0, none⟩) from hF.slot 3 (by kernel_rfl))
          refine rgw_val (by rw [wanted_of (d := 15) rfl rfl dj]; rfl) (.agg (bookCells B ta tc sa sc)) (by exact ex_load_row (a := act) 30 (.tmp 3) rfl w.heap.size (show slotOf act 3 = .pointer (some ⟨w.heap.size, 0, none⟩) from hF.slot 3 (by kernel_rfl)) 30 _ (0, 0) _ ((Below.block hR _ hx0l).trans hx0) Tryd.underlying30 rfl (by rw [size30]; rfl)) (BR.refl _) ?_
          exact congrArg (fun v => [v]) (slotOf_same act 16 _ (by omega))
        | 5, ho, hD =>
          cases ho
          have dj : slotOf act 15 = .bool true := (List.cons.inj (hD 3 (by decide))).1
          have e2 := slot_tmps (show slotOf act 2 = i64 hr from hF.slot 2 (by kernel_rfl))
          refine rgw_val (by rw [wanted_of (d := 15) rfl rfl dj]; rfl) (i64 hr) (by simp [go_sem, e2]) (BR.refl _) ?_
          exact congrArg (fun v => [v]) (slotOf_same act 17 _ (by omega))
        | 6, ho, hD =>
          cases ho
          have dj : slotOf act 15 = .bool true := (List.cons.inj (hD 3 (by decide))).1
          have e16 := slot_tmps (List.cons.inj (hD 4 (by decide))).1
          have e17 := slot_tmps (List.cons.inj (hD 5 (by decide))).1
          refine rgw_call (by rw [wanted_of (d := 15) rfl rfl dj]; rfl) 86 #[bookVal B ta tc sa sc, i64 hr] (by simp [go_sem, e16, e17]) rfl ?_
          refine (isHourR_any B ta tc sa sc _ _ htl).mono ?_
          rintro e wB ⟨rfl, hb⟩
          rw [hq1.out]
          exact ⟨_, rfl, hb, congrArg (fun v => [v]) (slotOf_same act 18 _ (by omega))⟩
        | 7, ho, hD =>
          cases ho
          have e15 := slot_tmps (List.cons.inj (hD 3 (by decide))).1
          have e18 := slot_tmps (List.cons.inj (hD 6 (by decide))).1
          refine rgw_val (wanted_none rfl) (.bool false) (by simp [go_sem, e15, e18]) (BR.refl _) ?_
          exact congrArg (fun v => [v]) (slotOf_same act 19 _ (by omega))
        | 8, ho, hD =>
          cases ho
          have e12 := slot_tmps (List.cons.inj (hD 0 (by decide))).1
          have e19 := slot_tmps (List.cons.inj (hD 7 (by decide))).1
          refine rgw_call (wanted_none rfl) 88 #[bookVal B ta tc sa sc, .bool false] (by simp [go_sem, e12, e19]) rfl ?_
          refine (askedR_v (hB0.below hR) false).mono ?_
          rintro e wB ⟨b, a, l, c, rfl, hb, hC, hl⟩
          exact ⟨_, rfl, hb, b, a, l, c, congrArg (fun v => [v]) (slotOf_same act 20 _ (by omega)), hC, hl⟩
        | 9, ho, hD =>
          cases ho
          obtain ⟨b, a, l, c, dt, hC, hl⟩ := hD 8 (by decide)
          have es := slot_tmps (List.cons.inj dt).1
          refine rgw_val (wanted_none rfl) (.tuple #[.slice a (List.length l) c, i64 (askE B false)]) (by simp [go_sem, es]) (BR.refl _) ?_
          exact ⟨b, a, l, c, congrArg (fun v => [v]) (slotOf_same act 11 _ (by omega)), hC, hl⟩
        | 10, ho, hD =>
          cases ho
          obtain ⟨b, a, l, c, dt, hC, hl⟩ := hD 9 (by decide)
          have es := slot_tmps (List.cons.inj dt).1
          refine rgw_val (wanted_none rfl) (.slice a (List.length l) c) (by simp [go_sem, es]) (BR.refl _) ?_
          exact ⟨b, a, l, c, congrArg (fun v => [v]) (slotOf_same act 21 _ (by omega)), hC, hl⟩
        | 11, ho, hD =>
          cases ho
          obtain ⟨b, a, l, c, dt, hC, hl⟩ := hD 9 (by decide)
          have es := slot_tmps (List.cons.inj dt).1
          refine rgw_val (wanted_none rfl) (i64 (askE B false)) (by simp [go_sem, es]) (BR.refl _) ?_
          exact congrArg (fun v => [v]) (slotOf_same act 22 _ (by omega))
        | 12, ho, hD =>
          cases ho
          obtain ⟨b, a, l, c, dt, hC, hl⟩ := hD 10 (by decide)
          have es := slot_tmps (List.cons.inj dt).1
          refine rgw_val (wanted_none rfl) (.slice a (List.length l) c) (by simp [go_sem, es]) (BR.refl _) ?_
          exact ⟨b, a, l, c, congrArg (fun v => [v]) (slotOf_same act 8 _ (by omega)), hC, hl⟩
        | 13, ho, hD =>
          cases ho
          have e22 := slot_tmps (List.cons.inj (hD 11 (by decide))).1
          refine rgw_val (wanted_none rfl) (i64 (askE B false)) (by simp [go_sem, e22]) (BR.refl _) ?_
          exact congrArg (fun v => [v]) (slotOf_same act 9 _ (by omega))
        | _ + 14, ho, _ => cases ho
      · intro act wA hR hF hA
        have f1 : slotOf act 1 = i64 s := hF.slot 1 (by kernel_rfl)
        have f2 : slotOf act 2 = i64 hr := hF.slot 2 (by kernel_rfl)
        have f3 : slotOf act 3 = .pointer (some ⟨w.heap.size, 0, none⟩) := hF.slot 3 (by kernel_rfl)
        have f6 : slotOf act 6 = i64 0 := hF.slot 6 (by kernel_rfl)
        have f7 : slotOf act 7 = i64 0 := hF.slot 7 (by kernel_rfl)
        obtain ⟨lb, la, l, lc, d8, hC, hl⟩ := hA 12 (by decide)
        have f8 : slotOf act 8 = .slice la l.length lc := (List.cons.inj d8).1
        have f9 : slotOf act 9 = i64 (askE B false) := (List.cons.inj (hA 13 (by decide))).1
        have f12 : slotOf act 12 = .agg (bookCells B ta tc sa sc) := (List.cons.inj (hA 0 (by decide))).1
        have f13 : slotOf act 13 = i64 s := (List.cons.inj (hA 1 (by decide))).1
        have f14 : slotOf act 14 = .bool true := (List.cons.inj (hA 2 (by decide))).1
        have f15 : slotOf act 15 = .bool true := (List.cons.inj (hA 3 (by decide))).1
        have f16 : slotOf act 16 = .agg (bookCells B ta tc sa sc) := (List.cons.inj (hA 4 (by decide))).1
        have f17 : slotOf act 17 = i64 hr := (List.cons.inj (hA 5 (by decide))).1
        have f18 : slotOf act 18 = .bool false := (List.cons.inj (hA 6 (by decide))).1
        have f19 : slotOf act 19 = .bool false := (List.cons.inj (hA 7 (by decide))).1
        have f22 : slotOf act 22 = i64 (askE B false) := (List.cons.inj (hA 11 (by decide))).1
        rw [act_eta act 38 hF.size hF.defers]
        simp only [show List.range 38 = [0, 1, 2, 3, 4, 5, 6, 7, 8, 9, 10, 11, 12, 13, 14, 15, 16, 17, 18, 19, 20, 21, 22, 23, 24, 25, 26, 27, 28, 29, 30, 31, 32, 33, 34, 35, 36, 37] from rfl, List.map_cons, List.map_nil, f1, f2, f3, f6, f7, f8, f9, f12, f13, f14, f15, f16, f17, f18, f19, f22]
        clear hA hF f1 f2 f3 f6 f7 f8 f9 f12 f13 f14 f15 f16 f17 f18 f19 f22
        have hbA := hb0.trans (Below.mono hR hb0.size)
        clear hR
        go_wp2_with fail
        refine bodyPost_ret (results_tmp2 rfl _ _) rfl ⟨by rw [hfin.out]; rfl, hbA⟩
    · replace hq1 := Lib.hid hq1
      go_enter Tryd.func64, Tryd.ntmps64
      go_wp2_with fail
      refine rg_region rdMo2t pureMo2t (gMo2t B ta tc sa sc s hr) BR (by kernel_rfl) (by kernel_rfl) (fun n => BR.drawn _ n) BR.refl (fun _ _ _ => BR.trans) ?_ ?_ ?_
      · intro i hi vs wA wB hG hR
        match i, hi, hG with
        | 0, _, hG => exact hG
        | 1, _, hG => exact hG
        | 2, _, hG => exact hG
        | 3, _, hG => exact hG
        | 4, _, hG => exact hG
        | 5, _, hG => exact hG
        | 6, _, hG => exact hG
        | 7, _, hG => exact hG
        | 8, _, hG => obtain ⟨b, a, l, c, h1, h2, h3⟩ := hG; exact ⟨b, a, l, c, h1, (h2.same (Same.of_below hR)).up (Below.size hR), h3⟩
        | 9, _, hG => obtain ⟨b, a, l, c, h1, h2, h3⟩ := hG; exact ⟨b, a, l, c, h1, (h2.same (Same.of_below hR)).up (Below.size hR), h3⟩
        | 10, _, hG => obtain ⟨b, a, l, c, h1, h2, h3⟩ := hG; exact ⟨b, a, l, c, h1, (h2.same (Same.of_below hR)).up (Below.size hR), h3⟩
        | 11, _, hG => exact hG
        | 12, _, hG => obtain ⟨b, a, l, c, h1, h2, h3⟩ := hG; exact ⟨b, a, l, c, h1, (h2.same (Same.of_below hR)).up (Below.size hR), h3⟩
        | 13, _, hG => exact hG
        | _ + 14, _, _ => trivial
      · intro i op ho act wA hR hF hD
        have sz : act.tmps.size = 38 := hF.size
        match i, ho, hD with
        | 0, ho, hD =>
          cases ho
          have e3 := slot_tmps (show slotOf act 3 = .pointer (some ⟨w.heap.size, 0, none⟩) from hF.slot 3 (by kernel_rfl))
          refine rgw_val (wanted_none rfl) (.agg (bookCells B ta tc sa sc)) (by exact ex_load_row (a := act) 30 (.tmp 3) rfl w.heap.size (show slotOf act 3 = .pointer (some ⟨w.heap.size, 0, none⟩) from hF.slot 3 (by kernel_rfl)) 30 _ (0, 0) _ ((Below.block hR _ hx0l).trans hx0) Tryd.underlying30 rfl (by rw [size30]; rfl)) (BR.refl _) ?_
          exact congrArg (fun v => [v]) (slotOf_same act 12 _ (by omega))
        | 1, ho, hD =>
          cases ho
          have e1 := slot_tmps (show slotOf act 1 = i64 s from hF.slot 1 (by kernel_rfl))
          refine rgw_val (wanted_none rfl) (i64 s) (by simp [go_sem, e1]) (BR.refl _) ?_
          exact congrArg (fun v => [v]) (slotOf_same act 13 _ (by omega))
        | 2, ho, hD =>
          cases ho
          have e13 := slot_tmps (List.cons.inj (hD 1 (by decide))).1
          refine rgw_call (wanted_none rfl) 87 #[i64 s] (by simp [go_sem, e13]) rfl ?_
          refine (isShoreR_any _ _).mono ?_
          rintro e wB ⟨rfl, rfl⟩
          rw [hq0.out]
          exact ⟨_, rfl, BR.refl _, congrArg (fun v => [v]) (slotOf_same act 14 _ (by omega))⟩
        | 3, ho, hD =>
          cases ho
          have e14 := slot_tmps (List.cons.inj (hD 2 (by decide))).1
          refine rgw_val (wanted_none rfl) (.bool true) (by simp [go_sem, e14]) (BR.refl _) ?_
          exact congrArg (fun v => [v]) (slotOf_same act 15 _ (by omega))
        | 4, ho, hD =>
          cases ho
          have dj : slotOf act 15 = .bool true := (List.cons.inj (hD 3 (by decide))).1
          have e3 := slot_tmps (show slotOf act 3 = .pointer (some ⟨w.heap.size, 0, none⟩) from hF.slot 3 (by kernel_rfl))
          refine rgw_val (by rw [wanted_of (d := 15) rfl rfl dj]; rfl) (.agg (bookCells B ta tc sa sc)) (by exact ex_load_row (a := act) 30 (.tmp 3) rfl w.heap.size (show slotOf act 3 = .pointer (some ⟨w.heap.size, 0, none⟩) from hF.slot 3 (by kernel_rfl)) 30 _ (0, 0) _ ((Below.block hR _ hx0l).trans hx0) Tryd.underlying30 rfl (by rw [size30]; rfl)) (BR.refl _) ?_
          exact congrArg (fun v => [v]) (slotOf_same act 16 _ (by omega))
        | 5, ho, hD =>
          cases ho
          have dj : slotOf act 15 = .bool true := (List.cons.inj (hD 3 (by decide))).1
          have e2 := slot_tmps (show slotOf act 2 = i64 hr from hF.slot 2 (by kernel_rfl))
          refine rgw_val (by rw [wanted_of (d := 15) rfl rfl dj]; rfl) (i64 hr) (by simp [go_sem, e2]) (BR.refl _) ?_
          exact congrArg (fun v => [v]) (slotOf_same act 17 _ (by omega))
        | 6, ho, hD =>
          cases ho
          have dj : slotOf act 15 = .bool true := (List.cons.inj (hD 3 (by decide))).1
          have e16 := slot_tmps (List.cons.inj (hD 4 (by decide))).1
          have e17 := slot_tmps (List.cons.inj (hD 5 (by decide))).1
          refine rgw_call (by rw [wanted_of (d := 15) rfl rfl dj]; rfl) 86 #[bookVal B ta tc sa sc, i64 hr] (by simp [go_sem, e16, e17]) rfl ?_
          refine (isHourR_any B ta tc sa sc _ _ htl).mono ?_
          rintro e wB ⟨rfl, hb⟩
          rw [hq1.out]
          exact ⟨_, rfl, hb, congrArg (fun v => [v]) (slotOf_same act 18 _ (by omega))⟩
        | 7, ho, hD =>
          cases ho
          have e15 := slot_tmps (List.cons.inj (hD 3 (by decide))).1
          have e18 := slot_tmps (List.cons.inj (hD 6 (by decide))).1
          refine rgw_val (wanted_none rfl) (.bool true) (by simp [go_sem, e15, e18]) (BR.refl _) ?_
          exact congrArg (fun v => [v]) (slotOf_same act 19 _ (by omega))
        | 8, ho, hD =>
          cases ho
          have e12 := slot_tmps (List.cons.inj (hD 0 (by decide))).1
          have e19 := slot_tmps (List.cons.inj (hD 7 (by decide))).1
          refine rgw_call (wanted_none rfl) 88 #[bookVal B ta tc sa sc, .bool true] (by simp [go_sem, e12, e19]) rfl ?_
          refine (askedR_v (hB0.below hR) true).mono ?_
          rintro e wB ⟨b, a, l, c, rfl, hb, hC, hl⟩
          exact ⟨_, rfl, hb, b, a, l, c, congrArg (fun v => [v]) (slotOf_same act 20 _ (by omega)), hC, hl⟩
        | 9, ho, hD =>
          cases ho
          obtain ⟨b, a, l, c, dt, hC, hl⟩ := hD 8 (by decide)
          have es := slot_tmps (List.cons.inj dt).1
          refine rgw_val (wanted_none rfl) (.tuple #[.slice a (List.length l) c, i64 (askE B true)]) (by simp [go_sem, es]) (BR.refl _) ?_
          exact ⟨b, a, l, c, congrArg (fun v => [v]) (slotOf_same act 11 _ (by omega)), hC, hl⟩
        | 10, ho, hD =>
          cases ho
          obtain ⟨b, a, l, c, dt, hC, hl⟩ := hD 9 (by decide)
          have es := slot_tmps (List.cons.inj dt).1
          refine rgw_val (wanted_none rfl) (.slice a (List.length l) c) (by simp [go_sem, es]) (BR.refl _) ?_
          exact ⟨b, a, l, c, congrArg (fun v => [v]) (slotOf_same act 21 _ (by omega)), hC, hl⟩
        | 11, ho, hD =>
          cases ho
          obtain ⟨b, a, l, c, dt, hC, hl⟩ := hD 9 (by decide)
          have es := slot_tmps (List.cons.inj dt).1
          refine rgw_val (wanted_none rfl) (i64 (askE B true)) (by simp [go_sem, es]) (BR.refl _) ?_
          exact congrArg (fun v => [v]) (slotOf_same act 22 _ (by omega))
        | 12, ho, hD =>
          cases ho
          obtain ⟨b, a, l, c, dt, hC, hl⟩ := hD 10 (by decide)
          have es := slot_tmps (List.cons.inj dt).1
          refine rgw_val (wanted_none rfl) (.slice a (List.length l) c) (by simp [go_sem, es]) (BR.refl _) ?_
          exact ⟨b, a, l, c, congrArg (fun v => [v]) (slotOf_same act 8 _ (by omega)), hC, hl⟩
        | 13, ho, hD =>
          cases ho
          have e22 := slot_tmps (List.cons.inj (hD 11 (by decide))).1
          refine rgw_val (wanted_none rfl) (i64 (askE B true)) (by simp [go_sem, e22]) (BR.refl _) ?_
          exact congrArg (fun v => [v]) (slotOf_same act 9 _ (by omega))
        | _ + 14, ho, _ => cases ho
      · intro act wA hR hF hA
        have f1 : slotOf act 1 = i64 s := hF.slot 1 (by kernel_rfl)
        have f2 : slotOf act 2 = i64 hr := hF.slot 2 (by kernel_rfl)
        have f3 : slotOf act 3 = .pointer (some ⟨w.heap.size, 0, none⟩) := hF.slot 3 (by kernel_rfl)
        have f6 : slotOf act 6 = i64 0 := hF.slot 6 (by kernel_rfl)
        have f7 : slotOf act 7 = i64 0 := hF.slot 7 (by kernel_rfl)
        obtain ⟨lb, la, l, lc, d8, hC, hl⟩ := hA 12 (by decide)
        have f8 : slotOf act 8 = .slice la l.length lc := (List.cons.inj d8).1
        have f9 : slotOf act 9 = i64 (askE B true) := (List.cons.inj (hA 13 (by decide))).1
        have f12 : slotOf act 12 = .agg (bookCells B ta tc sa sc) := (List.cons.inj (hA 0 (by decide))).1
        have f13 : slotOf act 13 = i64 s := (List.cons.inj (hA 1 (by decide))).1
        have f14 : slotOf act 14 = .bool true := (List.cons.inj (hA 2 (by decide))).1
        have f15 : slotOf act 15 = .bool true := (List.cons.inj (hA 3 (by decide))).1
        have f16 : slotOf act 16 = .agg (bookCells B ta tc sa sc) := (List.cons.inj (hA 4 (by decide))).1
        have f17 : slotOf act 17 = i64 hr := (List.cons.inj (hA 5 (by decide))).1
        have f18 : slotOf act 18 = .bool true := (List.cons.inj (hA 6 (by decide))).1
        have f19 : slotOf act 19 = .bool true := (List.cons.inj (hA 7 (by decide))).1
        have f22 : slotOf act 22 = i64 (askE B true) := (List.cons.inj (hA 11 (by decide))).1
        rw [act_eta act 38 hF.size hF.defers]
        simp only [show List.range 38 = [0, 1, 2, 3, 4, 5, 6, 7, 8, 9, 10, 11, 12, 13, 14, 15, 16, 17, 18, 19, 20, 21, 22, 23, 24, 25, 26, 27, 28, 29, 30, 31, 32, 33, 34, 35, 36, 37] from rfl, List.map_cons, List.map_nil, f1, f2, f3, f6, f7, f8, f9, f12, f13, f14, f15, f16, f17, f18, f19, f22]
        clear hA hF f1 f2 f3 f6 f7 f8 f9 f12 f13 f14 f15 f16 f17 f18 f19 f22
        by_cases ha : askE B true = 0
        · obtain rfl := hl ha
          have hne : (askE B true != 0) = false := by rw [ha]; rfl
          have hVd := valid_iff.1 (ask_zero ha).1
          have hcc : ∃ f, CC B [] f := (ask_cases (ask_zero ha).1).elim (fun h => by rw [h.2] at ha; cases ha) (fun h => h.1)
          have hxA := (Below.block hR _ hx0l).trans hx0
          have hxAl := (Array.getElem?_eq_some_iff.1 hxA).1
          have hbA := hb0.trans (Below.mono hR hb0.size)
          have hBA := hB0.below hR
          have hoks := mostR_o hq0.out hq1.out ha
          have haH := Lib.hid ha
          clear ha hR
          have q := qs_of2 hq0.out hq1.out
          go_wp2_with fail
          obtain ⟨W5, hW5⟩ : ∃ W5, wA = W5 := ⟨_, rfl⟩
          rw [hW5] at hC hxA hxAl hbA hBA ⊢
          clear hW5
          refine wp_loop (MoIR w B s hr la lc W5) (fun act _ => moM act) ?_ ?_
          · exact ⟨0, by omega, rfl, rfl, rfl, rfl, rfl, rfl, congrArg (Value.int .i64) (by omega), Below.refl _ _, fun j hj => absurd hj (by omega)⟩
          · rintro act W6 ⟨n, hn, hsz, hdf, s1, s2, s3, s8, s10, hb6, hno⟩
            rw [act_eta act 38 hsz hdf]
            simp only [show List.range 38 = [0, 1, 2, 3, 4, 5, 6, 7, 8, 9, 10, 11, 12, 13, 14, 15, 16, 17, 18, 19, 20, 21, 22, 23, 24, 25, 26, 27, 28, 29, 30, 31, 32, 33, 34, 35, 36, 37] from rfl, List.map_cons, List.map_nil, s1, s2, s3, s8, s10]
            clear s1 s2 s3 s8 s10
            have hx6 := (hb6.block _ hxAl).trans hxA
            have hb7 := hbA.trans (hb6.mono hbA.size)
            obtain ⟨E, hE⟩ : ∃ E, Hid ((200 : Int) - (n : Int) = E) := ⟨_, Lib.hid rfl⟩
            have hEm := hE.out
            rw [hEm]
            clear hEm
            by_cases hlt : n < 201
            · have hE0 : 0 ≤ E := by have := hE.out; omega
              have hE1 : E ≤ 200 := by have := hE.out; omega
              have hE0' : decide (E ≥ 0) = true := decide_eq_true hE0
              have hw4 : IntKind.i64.wrap (E - 1) = E - 1 := wrap_fit (by omega) (by omega)
              have hC6 := (hC.same (Same.of_below hb6)).up hb6.size
              have hB6 := hBA.below hb6
              have hkc := kind_cases hVd hcc (s := s) (ld := E) q.1 q.2
              go_wp2_with (refine ld30 rfl _ rfl _ _ rfl hx6 rfl ?_)
              refine (lands92_v hB6 hC6 hVd hcc hq0.out q.1 q.2 hE0 (by omega)).mono ?_
              rintro e w2 ⟨rfl, hb2⟩
              have hb3 := hb7.trans (hb2.mono hb7.size)
              have hb8 := hb6.trans (hb2.mono hb6.size)
              rcases hkc with ⟨hs, hk⟩ | ⟨hs, _, hk⟩ | ⟨hs, _, hk⟩
              · rw [hk]
                have hf := mostO_at (B := B) (s := s) (hr := hr) hlt (by rw [hE.out]; exact hs) hno
                rw [hE.out] at hf
                replace hf := Lib.hid hf
                clear hs hk hno
                go_wp2_with fail
                refine bodyPost_ret (results_tmp2 rfl _ _) rfl ⟨by rw [hoks.out, hf.out]; rfl, hb3⟩
              · rw [hk]
                have hno2 := most_next (B := B) (s := s) (hr := hr) hno (by rw [hE.out]; exact hs)
                clear hs hk hno
                go_wp2_with fail
                refine ⟨⟨n + 1, by omega, rfl, rfl, rfl, rfl, rfl, rfl, congrArg (Value.int .i64) (by have := hE.out; omega), hb8, hno2⟩, moM_lt hE0 rfl rfl⟩
              · rw [hk]
                have hno2 := most_next (B := B) (s := s) (hr := hr) hno (by rw [hE.out]; exact hs)
                clear hs hk hno
                go_wp2_with fail
                refine ⟨⟨n + 1, by omega, rfl, rfl, rfl, rfl, rfl, rfl, congrArg (Value.int .i64) (by have := hE.out; omega), hb8, hno2⟩, moM_lt hE0 rfl rfl⟩
            · have hE0 : ¬ E ≥ 0 := by have := hE.out; omega
              have hE0' : decide (E ≥ 0) = false := decide_eq_false hE0
              have hf := Lib.hid (mostO_none (B := B) (s := s) (hr := hr) (fun j hj => hno j (by omega)))
              clear hno
              go_wp2_with fail
              refine bodyPost_ret (results_tmp2 rfl _ _) rfl ⟨by rw [hoks.out, hf.out]; rfl, hb7⟩
        · have hne : (askE B true != 0) = true := by simpa using ha
          have hfin := mostR_e hq0.out hq1.out ha
          clear ha
          have hbA := hb0.trans (Below.mono hR hb0.size)
          clear hR
          go_wp2_with fail
          refine bodyPost_ret (results_tmp2 rfl _ _) rfl ⟨by rw [hfin.out]; rfl, hbA⟩
theorem mostRef_v {B : Book} {v : Value} {w : World} (hB : BookV w v B) (s hr : Int) : Calls Tryd.prog 64 #[v, i64 s, i64 hr] w (MostPost B s hr w) := by
  obtain ⟨tb, tq, ta, tc, sb, sq, sa, sc, rfl, hT, hS⟩ := hB
  exact mostRef_any B ta tc sa sc s hr w ⟨tb, tq, ta, tc, sb, sq, sa, sc, rfl, hT, hS⟩ hT.len
end Go.Proofs.YtkbmpkdflgimmaaDoor
