/- LandingEnds, shore 1. (Printed by genends.py.) -/
import Derived.Test.YtkbmpkdflgimmaaDoorEndsI
namespace Go.Proofs.YtkbmpkdflgimmaaDoor
open Go.RowKit Go.Shelf
def rdE7s1 (i : Nat) : List Nat := match i with
  | 0 => [45] | 1 => [46] | 2 => [47] | 3 => [48] | 4 => [49] | 5 => [50] | 6 => [51] | 7 => [52] | 8 => [53] | 9 => [54] | 10 => [55] | 11 => [56] | 12 => [57] | 13 => [58] | 14 => [59] | 15 => [60] | 16 => [61] | 17 => [62] | 18 => [63] | 19 => [64] | 20 => [4] | _ => []
def pureE7s1 (i : Nat) : Bool := match i with
  | 9 => false | 18 => false | _ => true
def gE7s1  (i : Nat) (vs : List Value) (_ : World) : Prop := match i with
  | 0 => vs = [i64 22]
  | 1 => vs = [.bool true]
  | 2 => vs = [.bool true]
  | 3 => vs = [i64 22]
  | 4 => vs = [i64 22]
  | 5 => vs = [.bool true]
  | 6 => vs = [.bool true]
  | 7 => vs = [.bool true]
  | 8 => vs = [.agg #[i64 0, i64 0]]
  | 9 => vs = [.agg #[i64 0, i64 0]]
  | 10 => vs = [.bool true]
  | 11 => vs = [.bool true]
  | 12 => vs = [.bool true]
  | 13 => vs = [.agg #[i64 0, i64 0]]
  | 14 => vs = [.agg #[i64 0, i64 0]]
  | 15 => vs = [.bool true]
  | 16 => vs = [.bool true]
  | 17 => vs = [.bool true]
  | 18 => vs = [.bool true]
  | 19 => vs = [.bool true]
  | 20 => vs = [.bool true]
  | _ => True
def rdE8s1 (i : Nat) : List Nat := match i with
  | 0 => [65] | 1 => [66] | 2 => [67] | 3 => [68] | 4 => [69] | 5 => [70] | 6 => [71] | 7 => [72] | 8 => [73] | 9 => [74] | 10 => [75] | 11 => [76] | 12 => [77] | 13 => [78] | 14 => [79] | 15 => [80] | 16 => [81] | 17 => [82] | 18 => [83] | 19 => [84] | 20 => [85] | 21 => [86] | 22 => [87] | 23 => [88] | 24 => [89] | 25 => [90] | 26 => [91] | 27 => [92] | 28 => [93] | 29 => [94] | 30 => [95] | 31 => [96] | 32 => [97] | 33 => [98] | 34 => [99] | 35 => [100] | _ => []
def pureE8s1 (i : Nat) : Bool := match i with
  | 9 => false | 19 => false | _ => true
def gE8s1 (w : World) (p q k tb tq : Nat) (a b u v : Int) (B : Book) (ta : Option Addr) (tc : Nat) (i : Nat) (vs : List Value) (_ : World) : Prop := match i with
  | 0 => vs = [i64 0]
  | 1 => vs = [.bool false]
  | 2 => vs = [.bool false]
  | 3 => vs = [.pointer (some ⟨w.heap.size, 0, none⟩)]
  | 4 => vs = [.slice ta B.tides.length tc]
  | 5 => vs = [i64 k]
  | 6 => vs = [.pointer (some ⟨tb, tq + k * 2, none⟩)]
  | 7 => vs = [.agg #[i64 (tideAt B k).lo, i64 (tideAt B k).hi]]
  | 8 => vs = [.agg #[i64 a, i64 b]]
  | 9 => vs = [.bool true]
  | 10 => vs = [.bool false]
  | 11 => vs = [.bool false]
  | 12 => vs = [.bool false]
  | 13 => vs = [i64 1]
  | 14 => vs = [.pointer (some ⟨w.heap.size, 1, none⟩)]
  | 15 => vs = [.pointer (some ⟨w.heap.size, 5, none⟩)]
  | 16 => vs = [.pointer (some ⟨w.heap.size, 5, none⟩)]
  | 17 => vs = [.agg #[i64 B.s1.fl, i64 B.s1.fh]]
  | 18 => vs = [.agg #[i64 u, i64 v]]
  | 19 => vs = [.bool true]
  | 20 => vs = [.bool false]
  | 21 => vs = [.bool false]
  | 22 => vs = [.bool false]
  | 23 => vs = [.pointer (some ⟨p, 0, none⟩)]
  | 24 => vs = [i64 a]
  | 25 => vs = [.pointer (some ⟨p, 1, none⟩)]
  | 26 => vs = [i64 b]
  | 27 => vs = [.bool false]
  | 28 => vs = [.bool false]
  | 29 => vs = [.bool false]
  | 30 => vs = [.pointer (some ⟨q, 0, none⟩)]
  | 31 => vs = [i64 u]
  | 32 => vs = [.pointer (some ⟨q, 1, none⟩)]
  | 33 => vs = [i64 v]
  | 34 => vs = [.bool false]
  | 35 => vs = [.bool false]
  | _ => True
def rdE10s1 (i : Nat) : List Nat := match i with
  | 0 => [101] | 1 => [102] | 2 => [103] | 3 => [104] | 4 => [105] | 5 => [106] | 6 => [107] | 7 => [108] | 8 => [109] | 9 => [110] | 10 => [111] | 11 => [112] | 12 => [113] | 13 => [114] | 14 => [115] | 15 => [116] | 16 => [117] | 17 => [118] | 18 => [119] | 19 => [120] | 20 => [121] | 21 => [122] | 22 => [123] | 23 => [124] | 24 => [125] | 25 => [126] | 26 => [11] | 27 => [12] | _ => []
def pureE10s1 (i : Nat) : Bool := match i with
  | 11 => false | 12 => false | 24 => false | 25 => false | _ => true
def gE10s1 (w : World) (p q k tb tq : Nat) (a b u v n2 n3 : Int) (B : Book) (ta : Option Addr) (tc : Nat) (i : Nat) (vs : List Value) (W : World) : Prop := match i with
  | 0 => vs = [.pointer (some ⟨p, 0, none⟩)]
  | 1 => vs = [i64 a]
  | 2 => vs = [.pointer (some ⟨p, 1, none⟩)]
  | 3 => vs = [i64 b]
  | 4 => vs = [.pointer (some ⟨w.heap.size, 0, none⟩)]
  | 5 => vs = [.slice ta B.tides.length tc]
  | 6 => vs = [i64 k]
  | 7 => vs = [.pointer (some ⟨tb, tq + k * 2, none⟩)]
  | 8 => vs = [.agg #[i64 (tideAt B k).lo, i64 (tideAt B k).hi]]
  | 9 => vs = [.pointer (some ⟨w.heap.size + 1, 2, none⟩)]
  | 10 => vs = [i64 n2]
  | 11 => vs = [i64 (withinI (tideAt B k).lo (tideAt B k).hi n2)]
  | 12 => ∃ g, vs = [.slice (some ⟨g, 0, none⟩) 3 3] ∧ W.heap[g]? = some (.cells #[i64 a, i64 b, i64 (withinI (tideAt B k).lo (tideAt B k).hi n2)] 3 (0, 0))
  | 13 => vs = [.pointer (some ⟨q, 0, none⟩)]
  | 14 => vs = [i64 u]
  | 15 => vs = [.pointer (some ⟨q, 1, none⟩)]
  | 16 => vs = [i64 v]
  | 17 => vs = [i64 1]
  | 18 => vs = [.pointer (some ⟨w.heap.size, 1, none⟩)]
  | 19 => vs = [.pointer (some ⟨w.heap.size, 5, none⟩)]
  | 20 => vs = [.pointer (some ⟨w.heap.size, 5, none⟩)]
  | 21 => vs = [.agg #[i64 B.s1.fl, i64 B.s1.fh]]
  | 22 => vs = [.pointer (some ⟨w.heap.size + 1, 3, none⟩)]
  | 23 => vs = [i64 n3]
  | 24 => vs = [i64 (withinI B.s1.fl B.s1.fh n3)]
  | 25 => ∃ g, vs = [.slice (some ⟨g, 0, none⟩) 3 3] ∧ W.heap[g]? = some (.cells #[i64 u, i64 v, i64 (withinI B.s1.fl B.s1.fh n3)] 3 (0, 0))
  | 26 => ∃ g, vs = [.slice (some ⟨g, 0, none⟩) 3 3] ∧ W.heap[g]? = some (.cells #[i64 a, i64 b, i64 (withinI (tideAt B k).lo (tideAt B k).hi n2)] 3 (0, 0))
  | 27 => ∃ g, vs = [.slice (some ⟨g, 0, none⟩) 3 3] ∧ W.heap[g]? = some (.cells #[i64 u, i64 v, i64 (withinI B.s1.fl B.s1.fh n3)] 3 (0, 0))
  | _ => True
def rdE14s1 (i : Nat) : List Nat := match i with
  | 0 => [132] | 1 => [133] | 2 => [134] | 3 => [135] | 4 => [136] | 5 => [137] | 6 => [138] | 7 => [139] | 8 => [131] | 9 => [140] | 10 => [141] | 11 => [14] | 12 => [15] | _ => []
def pureE14s1 (i : Nat) : Bool := match i with
  | 6 => false | 7 => false | _ => true
def gE14s1 (gl k j : Nat) (x : Int) (is : Bool) (B : Book) (ta : Option Addr) (tc : Nat) (sa : Option Addr) (sc : Nat) (i : Nat) (vs : List Value) (W : World) : Prop := match i with
  | 0 => vs = [.agg (bookCells B ta tc sa sc)]
  | 1 => vs = [i64 k]
  | 2 => vs = [.slice (some ⟨gl, 0, none⟩) 3 3]
  | 3 => vs = [i64 j]
  | 4 => vs = [.pointer (some ⟨gl, j, none⟩)]
  | 5 => vs = [i64 x]
  | 6 => ∃ v, vs = [v] ∧ BookV W v (setTide B k x)
  | 7 => vs = [.tuple #[.bool is, i64 0]]
  | 8 => vs = [.tuple #[.bool is, i64 0]]
  | 9 => vs = [.bool is]
  | 10 => vs = [i64 0]
  | 11 => vs = [.bool is]
  | 12 => vs = [i64 0]
  | _ => True
def rdE15s1 (i : Nat) : List Nat := match i with
  | 0 => [143] | 1 => [144] | 2 => [145] | 3 => [146] | 4 => [147] | 5 => [148] | 6 => [149] | 7 => [150] | 8 => [142] | 9 => [151] | 10 => [152] | 11 => [16] | 12 => [17] | _ => []
def pureE15s1 (i : Nat) : Bool := match i with
  | 6 => false | 7 => false | _ => true
def gE15s1 (gm j : Nat) (y : Int) (so : Bool) (B : Book) (ta : Option Addr) (tc : Nat) (sa : Option Addr) (sc : Nat) (i : Nat) (vs : List Value) (W : World) : Prop := match i with
  | 0 => vs = [.agg (bookCells B ta tc sa sc)]
  | 1 => vs = [i64 1]
  | 2 => vs = [.slice (some ⟨gm, 0, none⟩) 3 3]
  | 3 => vs = [i64 j]
  | 4 => vs = [.pointer (some ⟨gm, j, none⟩)]
  | 5 => vs = [i64 y]
  | 6 => ∃ v, vs = [v] ∧ BookV W v (setFl B 1 y)
  | 7 => vs = [.tuple #[.bool so, i64 0]]
  | 8 => vs = [.tuple #[.bool so, i64 0]]
  | 9 => vs = [.bool so]
  | 10 => vs = [i64 0]
  | 11 => vs = [.bool so]
  | 12 => vs = [i64 0]
  | _ => True
def rdE16s1LIS (i : Nat) : List Nat := match i with
  | 0 => [153] | 1 => [154] | 2 => [155] | 3 => [156] | 4 => [157] | 5 => [158] | 6 => [159] | 7 => [160] | 8 => [161] | 9 => [162] | 10 => [163] | 11 => [164] | 12 => [165] | 13 => [166] | 14 => [167] | 15 => [168] | 16 => [169] | 17 => [170] | 18 => [171] | 19 => [172] | 20 => [173] | 21 => [174] | 22 => [175] | 23 => [176] | 24 => [177] | 25 => [178] | 26 => [179] | 27 => [180] | 28 => [181] | 29 => [182] | 30 => [183] | 31 => [184] | 32 => [185] | 33 => [186] | 34 => [187] | 35 => [188] | 36 => [189] | 37 => [190] | 38 => [191] | 39 => [192] | 40 => [193] | 41 => [194] | _ => []
def pureE16s1LIS (i : Nat) : Bool := match i with
  | 26 => false | 38 => false | _ => true
def gE16s1LIS (gl gm j : Nat) (a b u v x y : Int) (i : Nat) (vs : List Value) (_ : World) : Prop := match i with
  | 0 => vs = [i64 0]
  | 1 => vs = [.bool false]
  | 2 => vs = [.bool false]
  | 3 => vs = [i64 0]
  | 4 => vs = [.bool false]
  | 5 => vs = [.bool false]
  | 6 => vs = [.bool false]
  | 7 => vs = [i64 j]
  | 8 => vs = [.bool true]
  | 9 => vs = [.bool true]
  | 10 => vs = [.bool true]
  | 11 => vs = [.bool false]
  | 12 => vs = [.bool false]
  | 13 => vs = [.bool true]
  | 14 => vs = [.bool false]
  | 15 => vs = [.bool false]
  | 16 => vs = [.bool false]
  | 17 => vs = [.bool false]
  | 18 => vs = [.bool false]
  | 19 => vs = [.bool true]
  | 20 => vs = [.bool true]
  | 21 => vs = [.agg #[i64 a, i64 b]]
  | 22 => vs = [.slice (some ⟨gl, 0, none⟩) 3 3]
  | 23 => vs = [i64 j]
  | 24 => vs = [.pointer (some ⟨gl, j, none⟩)]
  | 25 => vs = [i64 x]
  | 26 => vs = [.bool true]
  | 27 => vs = [.bool false]
  | 28 => vs = [.bool false]
  | 29 => vs = [.bool false]
  | 30 => vs = [.bool false]
  | 31 => vs = [.bool true]
  | 32 => vs = [.bool true]
  | 33 => vs = [.agg #[i64 u, i64 v]]
  | 34 => vs = [.slice (some ⟨gm, 0, none⟩) 3 3]
  | 35 => vs = [i64 j]
  | 36 => vs = [.pointer (some ⟨gm, j, none⟩)]
  | 37 => vs = [i64 y]
  | 38 => vs = [.bool true]
  | 39 => vs = [.bool false]
  | 40 => vs = [.bool false]
  | 41 => vs = [.bool false]
  | _ => True
def rdE16s1 (i : Nat) : List Nat := match i with
  | 0 => [153] | 1 => [154] | 2 => [155] | 3 => [156] | 4 => [157] | 5 => [158] | 6 => [159] | 7 => [160] | 8 => [161] | 9 => [162] | 10 => [163] | 11 => [164] | 12 => [165] | 13 => [166] | 14 => [167] | 15 => [168] | 16 => [169] | 17 => [170] | 18 => [171] | 19 => [172] | 20 => [173] | 21 => [174] | 22 => [175] | 23 => [176] | 24 => [177] | 25 => [178] | 26 => [179] | 27 => [180] | 28 => [181] | 29 => [182] | 30 => [183] | 31 => [184] | 32 => [185] | 33 => [186] | 34 => [187] | 35 => [188] | 36 => [189] | 37 => [190] | 38 => [191] | 39 => [192] | 40 => [193] | 41 => [194] | _ => []
def pureE16s1 (i : Nat) : Bool := match i with
  | 26 => false | 38 => false | _ => true
def gE16s1 (j : Nat) (i : Nat) (vs : List Value) (_ : World) : Prop := match i with
  | 0 => vs = [i64 0]
  | 1 => vs = [.bool false]
  | 2 => vs = [.bool false]
  | 3 => vs = [i64 0]
  | 4 => vs = [.bool false]
  | 5 => vs = [.bool false]
  | 6 => vs = [.bool false]
  | 7 => vs = [i64 j]
  | 8 => vs = [.bool false]
  | 9 => vs = [.bool false]
  | 10 => True
  | 11 => True
  | 12 => vs = [undef]
  | 13 => True
  | 14 => True
  | 15 => True
  | 16 => vs = [.bool false]
  | 17 => vs = [.bool false]
  | 18 => vs = [.bool false]
  | 19 => vs = [.bool false]
  | 20 => vs = [.bool false]
  | 21 => True
  | 22 => True
  | 23 => True
  | 24 => True
  | 25 => True
  | 26 => True
  | 27 => True
  | 28 => vs = [.bool false]
  | 29 => vs = [.bool false]
  | 30 => vs = [.bool false]
  | 31 => vs = [.bool false]
  | 32 => vs = [.bool false]
  | 33 => True
  | 34 => True
  | 35 => True
  | 36 => True
  | 37 => True
  | 38 => True
  | 39 => True
  | 40 => vs = [.bool false]
  | 41 => vs = [.bool false]
  | _ => True
def rdE16s1S (i : Nat) : List Nat := match i with
  | 0 => [153] | 1 => [154] | 2 => [155] | 3 => [156] | 4 => [157] | 5 => [158] | 6 => [159] | 7 => [160] | 8 => [161] | 9 => [162] | 10 => [163] | 11 => [164] | 12 => [165] | 13 => [166] | 14 => [167] | 15 => [168] | 16 => [169] | 17 => [170] | 18 => [171] | 19 => [172] | 20 => [173] | 21 => [174] | 22 => [175] | 23 => [176] | 24 => [177] | 25 => [178] | 26 => [179] | 27 => [180] | 28 => [181] | 29 => [182] | 30 => [183] | 31 => [184] | 32 => [185] | 33 => [186] | 34 => [187] | 35 => [188] | 36 => [189] | 37 => [190] | 38 => [191] | 39 => [192] | 40 => [193] | 41 => [194] | _ => []
def pureE16s1S (i : Nat) : Bool := match i with
  | 26 => false | 38 => false | _ => true
def gE16s1S (gm j : Nat) (u v y : Int) (i : Nat) (vs : List Value) (_ : World) : Prop := match i with
  | 0 => vs = [i64 0]
  | 1 => vs = [.bool false]
  | 2 => vs = [.bool false]
  | 3 => vs = [i64 0]
  | 4 => vs = [.bool false]
  | 5 => vs = [.bool false]
  | 6 => vs = [.bool false]
  | 7 => vs = [i64 j]
  | 8 => vs = [.bool false]
  | 9 => vs = [.bool false]
  | 10 => True
  | 11 => True
  | 12 => vs = [undef]
  | 13 => True
  | 14 => True
  | 15 => True
  | 16 => vs = [.bool false]
  | 17 => vs = [.bool false]
  | 18 => vs = [.bool false]
  | 19 => vs = [.bool false]
  | 20 => vs = [.bool false]
  | 21 => True
  | 22 => True
  | 23 => True
  | 24 => True
  | 25 => True
  | 26 => True
  | 27 => True
  | 28 => vs = [.bool false]
  | 29 => vs = [.bool false]
  | 30 => vs = [.bool false]
  | 31 => vs = [.bool true]
  | 32 => vs = [.bool true]
  | 33 => vs = [.agg #[i64 u, i64 v]]
  | 34 => vs = [.slice (some ⟨gm, 0, none⟩) 3 3]
  | 35 => vs = [i64 j]
  | 36 => vs = [.pointer (some ⟨gm, j, none⟩)]
  | 37 => vs = [i64 y]
  | 38 => vs = [.bool true]
  | 39 => vs = [.bool false]
  | 40 => vs = [.bool false]
  | 41 => vs = [.bool false]
  | _ => True
def rdE16s1I (i : Nat) : List Nat := match i with
  | 0 => [153] | 1 => [154] | 2 => [155] | 3 => [156] | 4 => [157] | 5 => [158] | 6 => [159] | 7 => [160] | 8 => [161] | 9 => [162] | 10 => [163] | 11 => [164] | 12 => [165] | 13 => [166] | 14 => [167] | 15 => [168] | 16 => [169] | 17 => [170] | 18 => [171] | 19 => [172] | 20 => [173] | 21 => [174] | 22 => [175] | 23 => [176] | 24 => [177] | 25 => [178] | 26 => [179] | 27 => [180] | 28 => [181] | 29 => [182] | 30 => [183] | 31 => [184] | 32 => [185] | 33 => [186] | 34 => [187] | 35 => [188] | 36 => [189] | 37 => [190] | 38 => [191] | 39 => [192] | 40 => [193] | 41 => [194] | _ => []
def pureE16s1I (i : Nat) : Bool := match i with
  | 26 => false | 38 => false | _ => true
def gE16s1I (gl j : Nat) (a b x : Int) (i : Nat) (vs : List Value) (_ : World) : Prop := match i with
  | 0 => vs = [i64 0]
  | 1 => vs = [.bool false]
  | 2 => vs = [.bool false]
  | 3 => vs = [i64 0]
  | 4 => vs = [.bool false]
  | 5 => vs = [.bool false]
  | 6 => vs = [.bool false]
  | 7 => vs = [i64 j]
  | 8 => vs = [.bool false]
  | 9 => vs = [.bool false]
  | 10 => True
  | 11 => True
  | 12 => vs = [undef]
  | 13 => True
  | 14 => True
  | 15 => True
  | 16 => vs = [.bool false]
  | 17 => vs = [.bool false]
  | 18 => vs = [.bool false]
  | 19 => vs = [.bool true]
  | 20 => vs = [.bool true]
  | 21 => vs = [.agg #[i64 a, i64 b]]
  | 22 => vs = [.slice (some ⟨gl, 0, none⟩) 3 3]
  | 23 => vs = [i64 j]
  | 24 => vs = [.pointer (some ⟨gl, j, none⟩)]
  | 25 => vs = [i64 x]
  | 26 => vs = [.bool true]
  | 27 => vs = [.bool false]
  | 28 => vs = [.bool false]
  | 29 => vs = [.bool false]
  | 30 => vs = [.bool false]
  | 31 => vs = [.bool false]
  | 32 => vs = [.bool false]
  | 33 => True
  | 34 => True
  | 35 => True
  | 36 => True
  | 37 => True
  | 38 => True
  | 39 => True
  | 40 => vs = [.bool false]
  | 41 => vs = [.bool false]
  | _ => True
def rdE16s1IS (i : Nat) : List Nat := match i with
  | 0 => [153] | 1 => [154] | 2 => [155] | 3 => [156] | 4 => [157] | 5 => [158] | 6 => [159] | 7 => [160] | 8 => [161] | 9 => [162] | 10 => [163] | 11 => [164] | 12 => [165] | 13 => [166] | 14 => [167] | 15 => [168] | 16 => [169] | 17 => [170] | 18 => [171] | 19 => [172] | 20 => [173] | 21 => [174] | 22 => [175] | 23 => [176] | 24 => [177] | 25 => [178] | 26 => [179] | 27 => [180] | 28 => [181] | 29 => [182] | 30 => [183] | 31 => [184] | 32 => [185] | 33 => [186] | 34 => [187] | 35 => [188] | 36 => [189] | 37 => [190] | 38 => [191] | 39 => [192] | 40 => [193] | 41 => [194] | _ => []
def pureE16s1IS (i : Nat) : Bool := match i with
  | 26 => false | 38 => false | _ => true
def gE16s1IS (gl gm j : Nat) (a b u v x y : Int) (i : Nat) (vs : List Value) (_ : World) : Prop := match i with
  | 0 => vs = [i64 0]
  | 1 => vs = [.bool false]
  | 2 => vs = [.bool false]
  | 3 => vs = [i64 0]
  | 4 => vs = [.bool false]
  | 5 => vs = [.bool false]
  | 6 => vs = [.bool false]
  | 7 => vs = [i64 j]
  | 8 => vs = [.bool false]
  | 9 => vs = [.bool false]
  | 10 => True
  | 11 => True
  | 12 => vs = [undef]
  | 13 => True
  | 14 => True
  | 15 => True
  | 16 => vs = [.bool false]
  | 17 => vs = [.bool false]
  | 18 => vs = [.bool false]
  | 19 => vs = [.bool true]
  | 20 => vs = [.bool true]
  | 21 => vs = [.agg #[i64 a, i64 b]]
  | 22 => vs = [.slice (some ⟨gl, 0, none⟩) 3 3]
  | 23 => vs = [i64 j]
  | 24 => vs = [.pointer (some ⟨gl, j, none⟩)]
  | 25 => vs = [i64 x]
  | 26 => vs = [.bool true]
  | 27 => vs = [.bool false]
  | 28 => vs = [.bool false]
  | 29 => vs = [.bool false]
  | 30 => vs = [.bool false]
  | 31 => vs = [.bool true]
  | 32 => vs = [.bool true]
  | 33 => vs = [.agg #[i64 u, i64 v]]
  | 34 => vs = [.slice (some ⟨gm, 0, none⟩) 3 3]
  | 35 => vs = [i64 j]
  | 36 => vs = [.pointer (some ⟨gm, j, none⟩)]
  | 37 => vs = [i64 y]
  | 38 => vs = [.bool true]
  | 39 => vs = [.bool false]
  | 40 => vs = [.bool false]
  | 41 => vs = [.bool false]
  | _ => True
set_option maxRecDepth 100000 in
set_option maxHeartbeats 8000000 in
theorem LEnds1_any (B : Book) (tb tq : Nat) (ta : Option Addr) (tc : Nat) (sb sq : Nat) (sa : Option Addr) (sc : Nat) (n0 n1 n2 n3 : Int) (w : World) (hG : GA w) (hT : SpansAt w.heap.size w tb tq ta B.tides) (hS : SoundsAt w.heap.size w sb sq sa B.sounds) (hsv : Hid (modI n1 2 = 1)) :
    Calls Tryd.prog 7 #[bookVal B ta tc sa sc, .agg #[i64 n0, i64 n1, i64 n2, i64 n3]] w (MoorPost w) := by
  have hb0 : Below w.heap.size w ((w.alloc (.cells (bookCells B ta tc sa sc) 30)).alloc (.cells #[i64 n0, i64 n1, i64 n2, i64 n3] 63)) := ((Below.refl _ w).alloc (Nat.le_refl _) _).alloc (by simp) _
  have hx0 : ((w.alloc (.cells (bookCells B ta tc sa sc) 30)).alloc (.cells #[i64 n0, i64 n1, i64 n2, i64 n3] 63)).heap[w.heap.size]? = some (.cells (bookCells B ta tc sa sc) 30 (0, 0)) := (Below.heap_alloc _ _ _ (by simp)).trans (heap_alloc_new w _)
  have hy0 : ((w.alloc (.cells (bookCells B ta tc sa sc) 30)).alloc (.cells #[i64 n0, i64 n1, i64 n2, i64 n3] 63)).heap[w.heap.size + 1]? = some (.cells #[i64 n0, i64 n1, i64 n2, i64 n3] 63 (0, 0)) := heap_alloc2_new w _ _
  have hx0l := (Array.getElem?_eq_some_iff.1 hx0).1
  have hy0l := (Array.getElem?_eq_some_iff.1 hy0).1
  have hB0 : BookV w (bookVal B ta tc sa sc) B := ⟨tb, tq, ta, tc, sb, sq, sa, sc, rfl, hT, hS⟩
  cases hv : B.valid
  · have hv := Lib.hid hv
    go_enter Tryd.func7, Tryd.ntmps7
    go_wp2_with (refine ld30 rfl _ rfl _ _ rfl hx0 rfl ?_)
    refine (sound_v (hB0.below hb0)).mono ?_
    rintro e w1 ⟨rfl, hb1⟩
    rw [hv.out]
    have ha1 := hb0.trans (hb1.mono hb0.size)
    clear hx0 hy0 hx0l hy0l hb1 hb0
    go_wp2_with fail
    refine (moored_any _ (hG.below ha1)).mono ?_
    rintro e w2 ⟨rfl, hb2⟩
    have ha2 := ha1.trans (hb2.mono ha1.size)
    go_wp2_with fail
    go_ret
    exact ⟨rfl, ha2⟩
  · have hV := valid_iff.1 hv
    have h1 := hV.h1
    have h24 := hV.h24
    have hs := modI_lt (n := n1) (m := 2) (by decide)
    have hh := modI_lt (n := n0) (m := B.tides.length) (by omega)
    have q : Qs B (modI n1 2) (modI n0 B.tides.length) 0 := ⟨hs.1, by omega, hh.1, hh.2, by decide, by decide⟩
    have hlaw := ends_law hv q
    obtain ⟨s, hs'⟩ : ∃ s, modI n1 2 = s := ⟨_, rfl⟩
    obtain ⟨hr, hh'⟩ : ∃ hr, modI n0 B.tides.length = hr := ⟨_, rfl⟩
    rw [hs', hh'] at hlaw q
    obtain ⟨k, rfl⟩ : ∃ k : Nat, hr = k := ⟨hr.toNat, by have := q.h0; omega⟩
    have hv := Lib.hid hv
    have M0 := fun W => mod_back n0 B.tides.length (by omega) W
    have M1 := fun W => mod_back n1 2 (by decide) W
    rw [hh'] at M0
    rw [hs'] at M1
    have hs0 := Lib.hid (hs'.symm.trans hsv.out)
    clear hs hh hs' hh' hsv
    go_enter Tryd.func7, Tryd.ntmps7
    go_wp2_with (refine ld30 rfl _ rfl _ _ rfl hx0 rfl ?_)
    refine (sound_v (hB0.below hb0)).mono ?_
    rintro e w1 ⟨rfl, hb1⟩
    rw [hv.out]
    have ha1 := hb0.trans (hb1.mono hb0.size)
    have hx1 := (hb1.block _ hx0l).trans hx0
    have hy1 := (hb1.block _ hy0l).trans hy0
    have hxc := cells_of hx1
    have hyc := cells_of hy1
    have hxl := (Array.getElem?_eq_some_iff.1 hx1).1
    have hyl := (Array.getElem?_eq_some_iff.1 hy1).1
    clear hx0 hy0 hx0l hy0l
    go_wp2_with fail
    go_quiet ((go_at_call 24; first | with_reducible exact Calls.quiet_of_same (M0 _) | with_reducible exact Calls.quiet_of_same (M1 _)))
    have hG1 := hG.below ha1
    have hB1 := hB0.below ha1
    refine abs_act (fun W => Below w.heap.size w W ∧ W.heap[w.heap.size]? = some (.cells (bookCells B ta tc sa sc) 30 (0, 0)) ∧ W.heap[w.heap.size + 1]? = some (.cells #[i64 n0, i64 n1, i64 n2, i64 n3] 63 (0, 0)) ∧ GA W ∧ BookV W (bookVal B ta tc sa sc) B) ⟨ha1.trans (drewN_below ha1.size _), hx1, hy1, hG1.below (drewN_below (Nat.le_refl _) _), hB1.below (drewN_below (Nat.le_refl _) _)⟩ ?_
    clear hG1 hB1 ha1 hx1 hy1 hxc hyc hxl hyl hb1 hb0 M0 M1
    rintro w2 ⟨ha2, hx2, hy2, hG2, hB2⟩
    rcases hlaw with ⟨hh, hf⟩ | ⟨a, b, u, v, hh, hf, hab, hta, hfa, hT1, hF1⟩
    · have hh := Lib.hid hh
      have hf := Lib.hid hf
      go_wp2_with (refine ld30 rfl _ rfl _ _ rfl hx2 rfl ?_)
      refine (height_v hG2 hB2 k).mono ?_
      rintro e w3 ⟨rfl, hb3⟩
      rw [hh.out]
      have hx3 := (hb3.block _ (Array.getElem?_eq_some_iff.1 hx2).1).trans hx2
      have hy3 := (hb3.block _ (Array.getElem?_eq_some_iff.1 hy2).1).trans hy2
      have hB3 := hB2.below hb3
      have hG3 := hG2.below hb3
      have ha3 := ha2.trans (hb3.mono ha2.size)
      clear hx2 hy2 hB2 hG2 ha2
      clear hb3
      obtain ⟨hb4, hp4⟩ := box24v w3 0 0
      have hx4 := (hb4.block _ (Array.getElem?_eq_some_iff.1 hx3).1).trans hx3
      have hy4 := (hb4.block _ (Array.getElem?_eq_some_iff.1 hy3).1).trans hy3
      have hB4 := hB3.below hb4
      have hG4 := hG3.below hb4
      have ha4 := ha3.trans (hb4.mono ha3.size)
      clear hx3 hy3 hB3 hG3 ha3
      clear hb4
      go_wp2_with (refine ld30 rfl _ rfl _ _ rfl hx4 rfl ?_)
      refine (floor_v hG4 hB4 s).mono ?_
      rintro e w5 ⟨rfl, hb5⟩
      rw [hf.out]
      have hx5 := (hb5.block _ (Array.getElem?_eq_some_iff.1 hx4).1).trans hx4
      have hy5 := (hb5.block _ (Array.getElem?_eq_some_iff.1 hy4).1).trans hy4
      have hp5 := (hb5.block _ (Array.getElem?_eq_some_iff.1 hp4).1).trans hp4
      have hB5 := hB4.below hb5
      have hG5 := hG4.below hb5
      have ha5 := ha4.trans (hb5.mono ha4.size)
      clear hx4 hy4 hp4 hB4 hG4 ha4
      clear hb5
      obtain ⟨hb6, hq6⟩ := box24v w5 0 0
      have hx6 := (hb6.block _ (Array.getElem?_eq_some_iff.1 hx5).1).trans hx5
      have hy6 := (hb6.block _ (Array.getElem?_eq_some_iff.1 hy5).1).trans hy5
      have hp6 := (hb6.block _ (Array.getElem?_eq_some_iff.1 hp5).1).trans hp5
      have hB6 := hB5.below hb6
      have hG6 := hG5.below hb6
      have ha6 := ha5.trans (hb6.mono ha5.size)
      clear hx5 hy5 hp5 hB5 hG5 ha5
      clear hb6
      obtain ⟨p, hpe⟩ : ∃ p, w3.heap.size = p := ⟨_, rfl⟩
      obtain ⟨q, hqe⟩ : ∃ q, w5.heap.size = q := ⟨_, rfl⟩
      rw [hpe] at hp6
      rw [hqe] at hq6
      have hpl := (Array.getElem?_eq_some_iff.1 hp6).1
      have hql := (Array.getElem?_eq_some_iff.1 hq6).1
      go_wp2_with fail
      refine rg_region rdE7s1 pureE7s1 (gE7s1 ) BR (by kernel_rfl) (by kernel_rfl) (fun n => BR.drawn _ n) BR.refl (fun _ _ _ => BR.trans) ?_ ?_ ?_
      · intro i hi vs wA wB hG hR
        match i, hi, hG with
        | 0, _, hG => exact hG
        | 1, _, hG => exact hG
        | 2, _, hG => exact hG
        | 3, _, hG => exact hG
        | 4, _, hG => exact hG
        | 5, _, hG => exact hG
        | 6, _, hG => exact hG
        | 7, _, hG => exact hG
        | 8, _, hG => exact hG
        | 9, _, hG => exact hG
        | 10, _, hG => exact hG
        | 11, _, hG => exact hG
        | 12, _, hG => exact hG
        | 13, _, hG => exact hG
        | 14, _, hG => exact hG
        | 15, _, hG => exact hG
        | 16, _, hG => exact hG
        | 17, _, hG => exact hG
        | 18, _, hG => exact hG
        | 19, _, hG => exact hG
        | 20, _, hG => exact hG
        | _ + 21, _, _ => trivial
      · intro i op ho act wA hR hF hD
        have sz : act.tmps.size = 196 := hF.size
        match i, ho, hD with
        | 0, ho, hD =>
          cases ho
          have e8 := slot_tmps (show slotOf act 8 = i64 22 from hF.slot 8 (by kernel_rfl))
          refine rgw_val (wanted_none rfl) (i64 22) (by simp [go_sem, e8]) (BR.refl _) ?_
          exact congrArg (fun v => [v]) (slotOf_same act 45 _ (by omega))
        | 1, ho, hD =>
          cases ho
          have e45 := slot_tmps (List.cons.inj (hD 0 (by decide))).1
          refine rgw_val (wanted_none rfl) (.bool true) (by simp [go_sem, e45]) (BR.refl _) ?_
          exact congrArg (fun v => [v]) (slotOf_same act 46 _ (by omega))
        | 2, ho, hD =>
          cases ho
          have e46 := slot_tmps (List.cons.inj (hD 1 (by decide))).1
          refine rgw_val (wanted_none rfl) (.bool true) (by simp [go_sem, e46]) (BR.refl _) ?_
          exact congrArg (fun v => [v]) (slotOf_same act 47 _ (by omega))
        | 3, ho, hD =>
          cases ho
          have dj : slotOf act 47 = .bool true := (List.cons.inj (hD 2 (by decide))).1
          have e10 := slot_tmps (show slotOf act 10 = i64 22 from hF.slot 10 (by kernel_rfl))
          refine rgw_val (by rw [wanted_of (d := 47) rfl rfl dj]; rfl) (i64 22) (by simp [go_sem, e10]) (BR.refl _) ?_
          exact congrArg (fun v => [v]) (slotOf_same act 48 _ (by omega))
        | 4, ho, hD =>
          cases ho
          have dj : slotOf act 47 = .bool true := (List.cons.inj (hD 2 (by decide))).1
          have e8 := slot_tmps (show slotOf act 8 = i64 22 from hF.slot 8 (by kernel_rfl))
          refine rgw_val (by rw [wanted_of (d := 47) rfl rfl dj]; rfl) (i64 22) (by simp [go_sem, e8]) (BR.refl _) ?_
          exact congrArg (fun v => [v]) (slotOf_same act 49 _ (by omega))
        | 5, ho, hD =>
          cases ho
          have dj : slotOf act 47 = .bool true := (List.cons.inj (hD 2 (by decide))).1
          have e48 := slot_tmps (List.cons.inj (hD 3 (by decide))).1
          have e49 := slot_tmps (List.cons.inj (hD 4 (by decide))).1
          refine rgw_val (by rw [wanted_of (d := 47) rfl rfl dj]; rfl) (.bool true) (by simp [go_sem, e48, e49]) (BR.refl _) ?_
          exact congrArg (fun v => [v]) (slotOf_same act 50 _ (by omega))
        | 6, ho, hD =>
          cases ho
          have e47 := slot_tmps (List.cons.inj (hD 2 (by decide))).1
          have e50 := slot_tmps (List.cons.inj (hD 5 (by decide))).1
          refine rgw_val (wanted_none rfl) (.bool true) (by simp [go_sem, e47, e50]) (BR.refl _) ?_
          exact congrArg (fun v => [v]) (slotOf_same act 51 _ (by omega))
        | 7, ho, hD =>
          cases ho
          have e51 := slot_tmps (List.cons.inj (hD 6 (by decide))).1
          refine rgw_val (wanted_none rfl) (.bool true) (by simp [go_sem, e51]) (BR.refl _) ?_
          exact congrArg (fun v => [v]) (slotOf_same act 52 _ (by omega))
        | 8, ho, hD =>
          cases ho
          have dj : slotOf act 52 = .bool true := (List.cons.inj (hD 7 (by decide))).1
          have e7 := slot_tmps (show slotOf act 7 = .pointer (some ⟨p, 0, none⟩) from hF.slot 7 (by kernel_rfl))
          have hpA := (Below.block hR _ hpl).trans hp6
          have hpc := cells_of hpA
          refine rgw_val (by rw [wanted_of (d := 52) rfl rfl dj]; rfl) (.agg #[i64 0, i64 0]) (by simp [go_sem, e7, hpc]) (BR.refl _) ?_
          exact congrArg (fun v => [v]) (slotOf_same act 53 _ (by omega))
        | 9, ho, hD =>
          cases ho
          have dj : slotOf act 52 = .bool true := (List.cons.inj (hD 7 (by decide))).1
          refine rgw_call (by rw [wanted_of (d := 52) rfl rfl dj]; rfl) 37 #[i64 0] (by simp [go_sem]) rfl ?_
          refine (point_any 0 _).mono ?_
          rintro e wB ⟨rfl, hb⟩
          exact ⟨_, rfl, hb, congrArg (fun v => [v]) (slotOf_same act 54 _ (by omega))⟩
        | 10, ho, hD =>
          cases ho
          have dj : slotOf act 52 = .bool true := (List.cons.inj (hD 7 (by decide))).1
          have e53 := slot_tmps (List.cons.inj (hD 8 (by decide))).1
          have e54 := slot_tmps (List.cons.inj (hD 9 (by decide))).1
          refine rgw_val (by rw [wanted_of (d := 52) rfl rfl dj]; rfl) (.bool true) (by simp [go_sem, e53, e54]) (BR.refl _) ?_
          exact congrArg (fun v => [v]) (slotOf_same act 55 _ (by omega))
        | 11, ho, hD =>
          cases ho
          have e52 := slot_tmps (List.cons.inj (hD 7 (by decide))).1
          have e55 := slot_tmps (List.cons.inj (hD 10 (by decide))).1
          refine rgw_val (wanted_none rfl) (.bool true) (by simp [go_sem, e52, e55]) (BR.refl _) ?_
          exact congrArg (fun v => [v]) (slotOf_same act 56 _ (by omega))
        | 12, ho, hD =>
          cases ho
          have e56 := slot_tmps (List.cons.inj (hD 11 (by decide))).1
          refine rgw_val (wanted_none rfl) (.bool true) (by simp [go_sem, e56]) (BR.refl _) ?_
          exact congrArg (fun v => [v]) (slotOf_same act 57 _ (by omega))
        | 13, ho, hD =>
          cases ho
          have dj : slotOf act 57 = .bool true := (List.cons.inj (hD 12 (by decide))).1
          have e9 := slot_tmps (show slotOf act 9 = .pointer (some ⟨q, 0, none⟩) from hF.slot 9 (by kernel_rfl))
          have hqA := (Below.block hR _ hql).trans hq6
          have hqc := cells_of hqA
          refine rgw_val (by rw [wanted_of (d := 57) rfl rfl dj]; rfl) (.agg #[i64 0, i64 0]) (by simp [go_sem, e9, hqc]) (BR.refl _) ?_
          exact congrArg (fun v => [v]) (slotOf_same act 58 _ (by omega))
        | 14, ho, hD =>
          cases ho
          have dj : slotOf act 57 = .bool true := (List.cons.inj (hD 12 (by decide))).1
          have e7 := slot_tmps (show slotOf act 7 = .pointer (some ⟨p, 0, none⟩) from hF.slot 7 (by kernel_rfl))
          have hpA := (Below.block hR _ hpl).trans hp6
          have hpc := cells_of hpA
          refine rgw_val (by rw [wanted_of (d := 57) rfl rfl dj]; rfl) (.agg #[i64 0, i64 0]) (by simp [go_sem, e7, hpc]) (BR.refl _) ?_
          exact congrArg (fun v => [v]) (slotOf_same act 59 _ (by omega))
        | 15, ho, hD =>
          cases ho
          have dj : slotOf act 57 = .bool true := (List.cons.inj (hD 12 (by decide))).1
          have e58 := slot_tmps (List.cons.inj (hD 13 (by decide))).1
          have e59 := slot_tmps (List.cons.inj (hD 14 (by decide))).1
          refine rgw_val (by rw [wanted_of (d := 57) rfl rfl dj]; rfl) (.bool true) (by simp [go_sem, e58, e59]) (BR.refl _) ?_
          exact congrArg (fun v => [v]) (slotOf_same act 60 _ (by omega))
        | 16, ho, hD =>
          cases ho
          have e57 := slot_tmps (List.cons.inj (hD 12 (by decide))).1
          have e60 := slot_tmps (List.cons.inj (hD 15 (by decide))).1
          refine rgw_val (wanted_none rfl) (.bool true) (by simp [go_sem, e57, e60]) (BR.refl _) ?_
          exact congrArg (fun v => [v]) (slotOf_same act 61 _ (by omega))
        | 17, ho, hD =>
          cases ho
          have e61 := slot_tmps (List.cons.inj (hD 16 (by decide))).1
          refine rgw_val (wanted_none rfl) (.bool true) (by simp [go_sem, e61]) (BR.refl _) ?_
          exact congrArg (fun v => [v]) (slotOf_same act 62 _ (by omega))
        | 18, ho, hD =>
          cases ho
          have dj : slotOf act 62 = .bool true := (List.cons.inj (hD 17 (by decide))).1
          refine rgw_call (by rw [wanted_of (d := 62) rfl rfl dj]; rfl) 18 #[] (by simp [go_sem]) rfl ?_
          refine (moored_any _ (hG6.below hR)).mono ?_
          rintro e wB ⟨rfl, hb⟩
          exact ⟨_, rfl, hb, congrArg (fun v => [v]) (slotOf_same act 63 _ (by omega))⟩
        | 19, ho, hD =>
          cases ho
          have e62 := slot_tmps (List.cons.inj (hD 17 (by decide))).1
          have e63 := slot_tmps (List.cons.inj (hD 18 (by decide))).1
          refine rgw_val (wanted_none rfl) (.bool true) (by simp [go_sem, e62, e63]) (BR.refl _) ?_
          exact congrArg (fun v => [v]) (slotOf_same act 64 _ (by omega))
        | 20, ho, hD =>
          cases ho
          have e64 := slot_tmps (List.cons.inj (hD 19 (by decide))).1
          refine rgw_val (wanted_none rfl) (.bool true) (by simp [go_sem, e64]) (BR.refl _) ?_
          exact congrArg (fun v => [v]) (slotOf_same act 4 _ (by omega))
        | _ + 21, ho, _ => cases ho
      · intro act wA hR hF hA
        have f7 : slotOf act 7 = .pointer (some ⟨p, 0, none⟩) := hF.slot 7 (by kernel_rfl)
        have f8 : slotOf act 8 = i64 22 := hF.slot 8 (by kernel_rfl)
        have f9 : slotOf act 9 = .pointer (some ⟨q, 0, none⟩) := hF.slot 9 (by kernel_rfl)
        have f10 : slotOf act 10 = i64 22 := hF.slot 10 (by kernel_rfl)
        have f4 : slotOf act 4 = .bool true := (List.cons.inj (hA 20 (by decide))).1
        have f45 : slotOf act 45 = i64 22 := (List.cons.inj (hA 0 (by decide))).1
        have f46 : slotOf act 46 = .bool true := (List.cons.inj (hA 1 (by decide))).1
        have f47 : slotOf act 47 = .bool true := (List.cons.inj (hA 2 (by decide))).1
        have f48 : slotOf act 48 = i64 22 := (List.cons.inj (hA 3 (by decide))).1
        have f49 : slotOf act 49 = i64 22 := (List.cons.inj (hA 4 (by decide))).1
        have f50 : slotOf act 50 = .bool true := (List.cons.inj (hA 5 (by decide))).1
        have f51 : slotOf act 51 = .bool true := (List.cons.inj (hA 6 (by decide))).1
        have f52 : slotOf act 52 = .bool true := (List.cons.inj (hA 7 (by decide))).1
        have f53 : slotOf act 53 = .agg #[i64 0, i64 0] := (List.cons.inj (hA 8 (by decide))).1
        have f54 : slotOf act 54 = .agg #[i64 0, i64 0] := (List.cons.inj (hA 9 (by decide))).1
        have f55 : slotOf act 55 = .bool true := (List.cons.inj (hA 10 (by decide))).1
        have f56 : slotOf act 56 = .bool true := (List.cons.inj (hA 11 (by decide))).1
        have f57 : slotOf act 57 = .bool true := (List.cons.inj (hA 12 (by decide))).1
        have f58 : slotOf act 58 = .agg #[i64 0, i64 0] := (List.cons.inj (hA 13 (by decide))).1
        have f59 : slotOf act 59 = .agg #[i64 0, i64 0] := (List.cons.inj (hA 14 (by decide))).1
        have f60 : slotOf act 60 = .bool true := (List.cons.inj (hA 15 (by decide))).1
        have f61 : slotOf act 61 = .bool true := (List.cons.inj (hA 16 (by decide))).1
        have f62 : slotOf act 62 = .bool true := (List.cons.inj (hA 17 (by decide))).1
        have f63 : slotOf act 63 = .bool true := (List.cons.inj (hA 18 (by decide))).1
        have f64 : slotOf act 64 = .bool true := (List.cons.inj (hA 19 (by decide))).1
        rw [act_eta act 196 hF.size hF.defers]
        simp only [show List.range 196 = [0, 1, 2, 3, 4, 5, 6, 7, 8, 9, 10, 11, 12, 13, 14, 15, 16, 17, 18, 19, 20, 21, 22, 23, 24, 25, 26, 27, 28, 29, 30, 31, 32, 33, 34, 35, 36, 37, 38, 39, 40, 41, 42, 43, 44, 45, 46, 47, 48, 49, 50, 51, 52, 53, 54, 55, 56, 57, 58, 59, 60, 61, 62, 63, 64, 65, 66, 67, 68, 69, 70, 71, 72, 73, 74, 75, 76, 77, 78, 79, 80, 81, 82, 83, 84, 85, 86, 87, 88, 89, 90, 91, 92, 93, 94, 95, 96, 97, 98, 99, 100, 101, 102, 103, 104, 105, 106, 107, 108, 109, 110, 111, 112, 113, 114, 115, 116, 117, 118, 119, 120, 121, 122, 123, 124, 125, 126, 127, 128, 129, 130, 131, 132, 133, 134, 135, 136, 137, 138, 139, 140, 141, 142, 143, 144, 145, 146, 147, 148, 149, 150, 151, 152, 153, 154, 155, 156, 157, 158, 159, 160, 161, 162, 163, 164, 165, 166, 167, 168, 169, 170, 171, 172, 173, 174, 175, 176, 177, 178, 179, 180, 181, 182, 183, 184, 185, 186, 187, 188, 189, 190, 191, 192, 193, 194, 195] from rfl, List.map_cons, List.map_nil, f7, f8, f9, f10, f4, f45, f46, f47, f48, f49, f50, f51, f52, f53, f54, f55, f56, f57, f58, f59, f60, f61, f62, f63, f64]
        clear hA hF f7 f8 f9 f10 f4 f45 f46 f47 f48 f49 f50 f51 f52 f53 f54 f55 f56 f57 f58 f59 f60 f61 f62 f63 f64
        go_wp2_with fail
        go_ret
        exact ⟨rfl, ha6.trans (Below.mono hR ha6.size)⟩
    · have hh := Lib.hid hh
      have hf := Lib.hid hf
      have hss : s = 0 ∨ s = 1 := by have := q.s0; have := q.s1; omega
      have hk : k < B.tides.length := by have := q.h1; omega
      clear q
      go_wp2_with (refine ld30 rfl _ rfl _ _ rfl hx2 rfl ?_)
      refine (height_v hG2 hB2 k).mono ?_
      rintro e w3 ⟨rfl, hb3⟩
      rw [hh.out]
      have hx3 := (hb3.block _ (Array.getElem?_eq_some_iff.1 hx2).1).trans hx2
      have hy3 := (hb3.block _ (Array.getElem?_eq_some_iff.1 hy2).1).trans hy2
      have hB3 := hB2.below hb3
      have hG3 := hG2.below hb3
      have ha3 := ha2.trans (hb3.mono ha2.size)
      clear hx2 hy2 hB2 hG2 ha2
      clear hb3
      obtain ⟨hb4, hp4⟩ := box24v w3 a b
      have hx4 := (hb4.block _ (Array.getElem?_eq_some_iff.1 hx3).1).trans hx3
      have hy4 := (hb4.block _ (Array.getElem?_eq_some_iff.1 hy3).1).trans hy3
      have hB4 := hB3.below hb4
      have hG4 := hG3.below hb4
      have ha4 := ha3.trans (hb4.mono ha3.size)
      clear hx3 hy3 hB3 hG3 ha3
      clear hb4
      go_wp2_with (refine ld30 rfl _ rfl _ _ rfl hx4 rfl ?_)
      refine (floor_v hG4 hB4 s).mono ?_
      rintro e w5 ⟨rfl, hb5⟩
      rw [hf.out]
      have hx5 := (hb5.block _ (Array.getElem?_eq_some_iff.1 hx4).1).trans hx4
      have hy5 := (hb5.block _ (Array.getElem?_eq_some_iff.1 hy4).1).trans hy4
      have hp5 := (hb5.block _ (Array.getElem?_eq_some_iff.1 hp4).1).trans hp4
      have hB5 := hB4.below hb5
      have hG5 := hG4.below hb5
      have ha5 := ha4.trans (hb5.mono ha4.size)
      clear hx4 hy4 hp4 hB4 hG4 ha4
      clear hb5
      obtain ⟨hb6, hq6⟩ := box24v w5 u v
      have hx6 := (hb6.block _ (Array.getElem?_eq_some_iff.1 hx5).1).trans hx5
      have hy6 := (hb6.block _ (Array.getElem?_eq_some_iff.1 hy5).1).trans hy5
      have hp6 := (hb6.block _ (Array.getElem?_eq_some_iff.1 hp5).1).trans hp5
      have hB6 := hB5.below hb6
      have hG6 := hG5.below hb6
      have ha6 := ha5.trans (hb6.mono ha5.size)
      clear hx5 hy5 hp5 hB5 hG5 ha5
      clear hb6
      obtain ⟨p, hpe⟩ : ∃ p, w3.heap.size = p := ⟨_, rfl⟩
      obtain ⟨q, hqe⟩ : ∃ q, w5.heap.size = q := ⟨_, rfl⟩
      rw [hpe] at hp6
      rw [hqe] at hq6
      have hpl := (Array.getElem?_eq_some_iff.1 hp6).1
      have hql := (Array.getElem?_eq_some_iff.1 hq6).1
      have hxl := (Array.getElem?_eq_some_iff.1 hx6).1
      have hTw := hT.same (Same.of_below ha6)
      have hwl := ha6.size
      have hi22 : ∀ W, (Instr.indexAt 22 (.slice ta B.tides.length tc) (.int .i64 (k : Int))).run Tryd.prog W = .ok (.pointer (some ⟨tb, tq + k * 2, none⟩)) W := fun W => idx22 W (hT.at_ (ne_nil_of_lt hk)) hk
      have htk := tideAt_nat hk
      have hcv1 : coversB (tideAt B k).lo (tideAt B k).hi a b = true := by simp [coversB]; omega
      have hab1 : decide (b < a) = false := by simp; omega
      have huv1 : decide (v < u) = false := by simp; omega
      obtain rfl := hs0.out
      clear hs0 hss
      have hcv2 : coversB B.s1.fl B.s1.fh u v = true := by have h9 := hfa; simp [flOf, fhOf] at h9; simp [coversB]; omega
      go_wp2_with fail
      refine rg_region rdE8s1 pureE8s1 (gE8s1 w p q k tb tq a b u v B ta tc) BR (by kernel_rfl) (by kernel_rfl) (fun n => BR.drawn _ n) BR.refl (fun _ _ _ => BR.trans) ?_ ?_ ?_
      · intro i hi vs wA wB hG hR
        match i, hi, hG with
        | 0, _, hG => exact hG
        | 1, _, hG => exact hG
        | 2, _, hG => exact hG
        | 3, _, hG => exact hG
        | 4, _, hG => exact hG
        | 5, _, hG => exact hG
        | 6, _, hG => exact hG
        | 7, _, hG => exact hG
        | 8, _, hG => exact hG
        | 9, _, hG => exact hG
        | 10, _, hG => exact hG
        | 11, _, hG => exact hG
        | 12, _, hG => exact hG
        | 13, _, hG => exact hG
        | 14, _, hG => exact hG
        | 15, _, hG => exact hG
        | 16, _, hG => exact hG
        | 17, _, hG => exact hG
        | 18, _, hG => exact hG
        | 19, _, hG => exact hG
        | 20, _, hG => exact hG
        | 21, _, hG => exact hG
        | 22, _, hG => exact hG
        | 23, _, hG => exact hG
        | 24, _, hG => exact hG
        | 25, _, hG => exact hG
        | 26, _, hG => exact hG
        | 27, _, hG => exact hG
        | 28, _, hG => exact hG
        | 29, _, hG => exact hG
        | 30, _, hG => exact hG
        | 31, _, hG => exact hG
        | 32, _, hG => exact hG
        | 33, _, hG => exact hG
        | 34, _, hG => exact hG
        | 35, _, hG => exact hG
        | _ + 36, _, _ => trivial
      · intro i op ho act wA hR hF hD
        have sz : act.tmps.size = 196 := hF.size
        match i, ho, hD with
        | 0, ho, hD =>
          cases ho
          have e10 := slot_tmps (show slotOf act 10 = i64 0 from hF.slot 10 (by kernel_rfl))
          refine rgw_val (wanted_none rfl) (i64 0) (by simp [go_sem, e10]) (BR.refl _) ?_
          exact congrArg (fun v => [v]) (slotOf_same act 65 _ (by omega))
        | 1, ho, hD =>
          cases ho
          have e65 := slot_tmps (List.cons.inj (hD 0 (by decide))).1
          refine rgw_val (wanted_none rfl) (.bool false) (by simp [go_sem, e65]) (BR.refl _) ?_
          exact congrArg (fun v => [v]) (slotOf_same act 66 _ (by omega))
        | 2, ho, hD =>
          cases ho
          have e66 := slot_tmps (List.cons.inj (hD 1 (by decide))).1
          refine rgw_val (wanted_none rfl) (.bool false) (by simp [go_sem, e66]) (BR.refl _) ?_
          exact congrArg (fun v => [v]) (slotOf_same act 67 _ (by omega))
        | 3, ho, hD =>
          cases ho
          have dj : slotOf act 67 = .bool false := (List.cons.inj (hD 2 (by decide))).1
          have e2 := slot_tmps (show slotOf act 2 = .pointer (some ⟨w.heap.size, 0, none⟩) from hF.slot 2 (by kernel_rfl))
          refine rgw_val (by rw [wanted_of (d := 67) rfl rfl dj]; rfl) (.pointer (some ⟨w.heap.size, 0, none⟩)) (by simp [go_sem, e2]) (BR.refl _) ?_
          exact congrArg (fun v => [v]) (slotOf_same act 68 _ (by omega))
        | 4, ho, hD =>
          cases ho
          have dj : slotOf act 67 = .bool false := (List.cons.inj (hD 2 (by decide))).1
          have e68 := slot_tmps (List.cons.inj (hD 3 (by decide))).1
          have hxA := (Below.block hR _ hxl).trans hx6
          have hxc := cells_of hxA
          refine rgw_val (by rw [wanted_of (d := 67) rfl rfl dj]; rfl) (.slice ta B.tides.length tc) (by simp [go_sem, e68, hxc]) (BR.refl _) ?_
          exact congrArg (fun v => [v]) (slotOf_same act 69 _ (by omega))
        | 5, ho, hD =>
          cases ho
          have dj : slotOf act 67 = .bool false := (List.cons.inj (hD 2 (by decide))).1
          have e5 := slot_tmps (show slotOf act 5 = i64 k from hF.slot 5 (by kernel_rfl))
          refine rgw_val (by rw [wanted_of (d := 67) rfl rfl dj]; rfl) (i64 k) (by simp [go_sem, e5]) (BR.refl _) ?_
          exact congrArg (fun v => [v]) (slotOf_same act 70 _ (by omega))
        | 6, ho, hD =>
          cases ho
          have dj : slotOf act 67 = .bool false := (List.cons.inj (hD 2 (by decide))).1
          have e69 := slot_tmps (List.cons.inj (hD 4 (by decide))).1
          have e70 := slot_tmps (List.cons.inj (hD 5 (by decide))).1
          refine rgw_val (by rw [wanted_of (d := 67) rfl rfl dj]; rfl) (.pointer (some ⟨tb, tq + k * 2, none⟩)) (by simp [go_sem, e69, e70, hi22]) (BR.refl _) ?_
          exact congrArg (fun v => [v]) (slotOf_same act 71 _ (by omega))
        | 7, ho, hD =>
          cases ho
          have dj : slotOf act 67 = .bool false := (List.cons.inj (hD 2 (by decide))).1
          have e71 := slot_tmps (List.cons.inj (hD 6 (by decide))).1
          have hTA := hTw.same (Same.of_below (Below.mono hR hwl))
          have ct1 := hTA.lo k hk
          have ct2 := hTA.hi k hk
          refine rgw_val (by rw [wanted_of (d := 67) rfl rfl dj]; rfl) (.agg #[i64 (tideAt B k).lo, i64 (tideAt B k).hi]) (by simp [go_sem, e71, ct1, ct2, htk]) (BR.refl _) ?_
          exact congrArg (fun v => [v]) (slotOf_same act 72 _ (by omega))
        | 8, ho, hD =>
          cases ho
          have dj : slotOf act 67 = .bool false := (List.cons.inj (hD 2 (by decide))).1
          have e7 := slot_tmps (show slotOf act 7 = .pointer (some ⟨p, 0, none⟩) from hF.slot 7 (by kernel_rfl))
          have hpA := (Below.block hR _ hpl).trans hp6
          have hpc := cells_of hpA
          refine rgw_val (by rw [wanted_of (d := 67) rfl rfl dj]; rfl) (.agg #[i64 a, i64 b]) (by simp [go_sem, e7, hpc]) (BR.refl _) ?_
          exact congrArg (fun v => [v]) (slotOf_same act 73 _ (by omega))
        | 9, ho, hD =>
          cases ho
          have dj : slotOf act 67 = .bool false := (List.cons.inj (hD 2 (by decide))).1
          have e72 := slot_tmps (List.cons.inj (hD 7 (by decide))).1
          have e73 := slot_tmps (List.cons.inj (hD 8 (by decide))).1
          refine rgw_call (by rw [wanted_of (d := 67) rfl rfl dj]; rfl) 38 #[.agg #[i64 (tideAt B k).lo, i64 (tideAt B k).hi], .agg #[i64 a, i64 b]] (by simp [go_sem, e72, e73]) rfl ?_
          refine (covers_any _ _ _ _ _).mono ?_
          rintro e wB ⟨rfl, hb⟩
          rw [hcv1]
          exact ⟨_, rfl, hb, congrArg (fun v => [v]) (slotOf_same act 74 _ (by omega))⟩
        | 10, ho, hD =>
          cases ho
          have dj : slotOf act 67 = .bool false := (List.cons.inj (hD 2 (by decide))).1
          have e74 := slot_tmps (List.cons.inj (hD 9 (by decide))).1
          refine rgw_val (by rw [wanted_of (d := 67) rfl rfl dj]; rfl) (.bool false) (by simp [go_sem, e74]) (BR.refl _) ?_
          exact congrArg (fun v => [v]) (slotOf_same act 75 _ (by omega))
        | 11, ho, hD =>
          cases ho
          have e67 := slot_tmps (List.cons.inj (hD 2 (by decide))).1
          have e75 := slot_tmps (List.cons.inj (hD 10 (by decide))).1
          refine rgw_val (wanted_none rfl) (.bool false) (by simp [go_sem, e67, e75]) (BR.refl _) ?_
          exact congrArg (fun v => [v]) (slotOf_same act 76 _ (by omega))
        | 12, ho, hD =>
          cases ho
          have e76 := slot_tmps (List.cons.inj (hD 11 (by decide))).1
          refine rgw_val (wanted_none rfl) (.bool false) (by simp [go_sem, e76]) (BR.refl _) ?_
          exact congrArg (fun v => [v]) (slotOf_same act 77 _ (by omega))
        | 13, ho, hD =>
          cases ho
          have dj : slotOf act 77 = .bool false := (List.cons.inj (hD 12 (by decide))).1
          have e6 := slot_tmps (show slotOf act 6 = i64 1 from hF.slot 6 (by kernel_rfl))
          refine rgw_val (by rw [wanted_of (d := 77) rfl rfl dj]; rfl) (i64 1) (by simp [go_sem, e6]) (BR.refl _) ?_
          exact congrArg (fun v => [v]) (slotOf_same act 78 _ (by omega))
        | 14, ho, hD =>
          cases ho
          have dj : slotOf act 77 = .bool false := (List.cons.inj (hD 12 (by decide))).1
          have e2 := slot_tmps (show slotOf act 2 = .pointer (some ⟨w.heap.size, 0, none⟩) from hF.slot 2 (by kernel_rfl))
          refine rgw_val (by rw [wanted_of (d := 77) rfl rfl dj]; rfl) (.pointer (some ⟨w.heap.size, 1, none⟩)) (by simp [go_sem, e2]) (BR.refl _) ?_
          exact congrArg (fun v => [v]) (slotOf_same act 79 _ (by omega))
        | 15, ho, hD =>
          cases ho
          have dj : slotOf act 77 = .bool false := (List.cons.inj (hD 12 (by decide))).1
          have e78 := slot_tmps (List.cons.inj (hD 13 (by decide))).1
          have e79 := slot_tmps (List.cons.inj (hD 14 (by decide))).1
          refine rgw_val (by rw [wanted_of (d := 77) rfl rfl dj]; rfl) (.pointer (some ⟨w.heap.size, 5, none⟩)) (by simp [go_sem, e78, e79]) (BR.refl _) ?_
          exact congrArg (fun v => [v]) (slotOf_same act 80 _ (by omega))
        | 16, ho, hD =>
          cases ho
          have dj : slotOf act 77 = .bool false := (List.cons.inj (hD 12 (by decide))).1
          have e80 := slot_tmps (List.cons.inj (hD 15 (by decide))).1
          refine rgw_val (by rw [wanted_of (d := 77) rfl rfl dj]; rfl) (.pointer (some ⟨w.heap.size, 5, none⟩)) (by simp [go_sem, e80]) (BR.refl _) ?_
          exact congrArg (fun v => [v]) (slotOf_same act 81 _ (by omega))
        | 17, ho, hD =>
          cases ho
          have dj : slotOf act 77 = .bool false := (List.cons.inj (hD 12 (by decide))).1
          have e81 := slot_tmps (List.cons.inj (hD 16 (by decide))).1
          have hxA := (Below.block hR _ hxl).trans hx6
          have hxc := cells_of hxA
          refine rgw_val (by rw [wanted_of (d := 77) rfl rfl dj]; rfl) (.agg #[i64 B.s1.fl, i64 B.s1.fh]) (by simp [go_sem, e81, hxc]) (BR.refl _) ?_
          exact congrArg (fun v => [v]) (slotOf_same act 82 _ (by omega))
        | 18, ho, hD =>
          cases ho
          have dj : slotOf act 77 = .bool false := (List.cons.inj (hD 12 (by decide))).1
          have e9 := slot_tmps (show slotOf act 9 = .pointer (some ⟨q, 0, none⟩) from hF.slot 9 (by kernel_rfl))
          have hqA := (Below.block hR _ hql).trans hq6
          have hqc := cells_of hqA
          refine rgw_val (by rw [wanted_of (d := 77) rfl rfl dj]; rfl) (.agg #[i64 u, i64 v]) (by simp [go_sem, e9, hqc]) (BR.refl _) ?_
          exact congrArg (fun v => [v]) (slotOf_same act 83 _ (by omega))
        | 19, ho, hD =>
          cases ho
          have dj : slotOf act 77 = .bool false := (List.cons.inj (hD 12 (by decide))).1
          have e82 := slot_tmps (List.cons.inj (hD 17 (by decide))).1
          have e83 := slot_tmps (List.cons.inj (hD 18 (by decide))).1
          refine rgw_call (by rw [wanted_of (d := 77) rfl rfl dj]; rfl) 38 #[.agg #[i64 B.s1.fl, i64 B.s1.fh], .agg #[i64 u, i64 v]] (by simp [go_sem, e82, e83]) rfl ?_
          refine (covers_any _ _ _ _ _).mono ?_
          rintro e wB ⟨rfl, hb⟩
          rw [hcv2]
          exact ⟨_, rfl, hb, congrArg (fun v => [v]) (slotOf_same act 84 _ (by omega))⟩
        | 20, ho, hD =>
          cases ho
          have dj : slotOf act 77 = .bool false := (List.cons.inj (hD 12 (by decide))).1
          have e84 := slot_tmps (List.cons.inj (hD 19 (by decide))).1
          refine rgw_val (by rw [wanted_of (d := 77) rfl rfl dj]; rfl) (.bool false) (by simp [go_sem, e84]) (BR.refl _) ?_
          exact congrArg (fun v => [v]) (slotOf_same act 85 _ (by omega))
        | 21, ho, hD =>
          cases ho
          have e77 := slot_tmps (List.cons.inj (hD 12 (by decide))).1
          have e85 := slot_tmps (List.cons.inj (hD 20 (by decide))).1
          refine rgw_val (wanted_none rfl) (.bool false) (by simp [go_sem, e77, e85]) (BR.refl _) ?_
          exact congrArg (fun v => [v]) (slotOf_same act 86 _ (by omega))
        | 22, ho, hD =>
          cases ho
          have e86 := slot_tmps (List.cons.inj (hD 21 (by decide))).1
          refine rgw_val (wanted_none rfl) (.bool false) (by simp [go_sem, e86]) (BR.refl _) ?_
          exact congrArg (fun v => [v]) (slotOf_same act 87 _ (by omega))
        | 23, ho, hD =>
          cases ho
          have dj : slotOf act 87 = .bool false := (List.cons.inj (hD 22 (by decide))).1
          have e7 := slot_tmps (show slotOf act 7 = .pointer (some ⟨p, 0, none⟩) from hF.slot 7 (by kernel_rfl))
          refine rgw_val (by rw [wanted_of (d := 87) rfl rfl dj]; rfl) (.pointer (some ⟨p, 0, none⟩)) (by simp [go_sem, e7]) (BR.refl _) ?_
          exact congrArg (fun v => [v]) (slotOf_same act 88 _ (by omega))
        | 24, ho, hD =>
          cases ho
          have dj : slotOf act 87 = .bool false := (List.cons.inj (hD 22 (by decide))).1
          have e88 := slot_tmps (List.cons.inj (hD 23 (by decide))).1
          have hpA := (Below.block hR _ hpl).trans hp6
          have hpc := cells_of hpA
          refine rgw_val (by rw [wanted_of (d := 87) rfl rfl dj]; rfl) (i64 a) (by simp [go_sem, e88, hpc]) (BR.refl _) ?_
          exact congrArg (fun v => [v]) (slotOf_same act 89 _ (by omega))
        | 25, ho, hD =>
          cases ho
          have dj : slotOf act 87 = .bool false := (List.cons.inj (hD 22 (by decide))).1
          have e7 := slot_tmps (show slotOf act 7 = .pointer (some ⟨p, 0, none⟩) from hF.slot 7 (by kernel_rfl))
          refine rgw_val (by rw [wanted_of (d := 87) rfl rfl dj]; rfl) (.pointer (some ⟨p, 1, none⟩)) (by simp [go_sem, e7]) (BR.refl _) ?_
          exact congrArg (fun v => [v]) (slotOf_same act 90 _ (by omega))
        | 26, ho, hD =>
          cases ho
          have dj : slotOf act 87 = .bool false := (List.cons.inj (hD 22 (by decide))).1
          have e90 := slot_tmps (List.cons.inj (hD 25 (by decide))).1
          have hpA := (Below.block hR _ hpl).trans hp6
          have hpc := cells_of hpA
          refine rgw_val (by rw [wanted_of (d := 87) rfl rfl dj]; rfl) (i64 b) (by simp [go_sem, e90, hpc]) (BR.refl _) ?_
          exact congrArg (fun v => [v]) (slotOf_same act 91 _ (by omega))
        | 27, ho, hD =>
          cases ho
          have dj : slotOf act 87 = .bool false := (List.cons.inj (hD 22 (by decide))).1
          have e89 := slot_tmps (List.cons.inj (hD 24 (by decide))).1
          have e91 := slot_tmps (List.cons.inj (hD 26 (by decide))).1
          refine rgw_val (by rw [wanted_of (d := 87) rfl rfl dj]; rfl) (.bool false) (by simp [go_sem, e89, e91, hab1]) (BR.refl _) ?_
          exact congrArg (fun v => [v]) (slotOf_same act 92 _ (by omega))
        | 28, ho, hD =>
          cases ho
          have e87 := slot_tmps (List.cons.inj (hD 22 (by decide))).1
          have e92 := slot_tmps (List.cons.inj (hD 27 (by decide))).1
          refine rgw_val (wanted_none rfl) (.bool false) (by simp [go_sem, e87, e92]) (BR.refl _) ?_
          exact congrArg (fun v => [v]) (slotOf_same act 93 _ (by omega))
        | 29, ho, hD =>
          cases ho
          have e93 := slot_tmps (List.cons.inj (hD 28 (by decide))).1
          refine rgw_val (wanted_none rfl) (.bool false) (by simp [go_sem, e93]) (BR.refl _) ?_
          exact congrArg (fun v => [v]) (slotOf_same act 94 _ (by omega))
        | 30, ho, hD =>
          cases ho
          have dj : slotOf act 94 = .bool false := (List.cons.inj (hD 29 (by decide))).1
          have e9 := slot_tmps (show slotOf act 9 = .pointer (some ⟨q, 0, none⟩) from hF.slot 9 (by kernel_rfl))
          refine rgw_val (by rw [wanted_of (d := 94) rfl rfl dj]; rfl) (.pointer (some ⟨q, 0, none⟩)) (by simp [go_sem, e9]) (BR.refl _) ?_
          exact congrArg (fun v => [v]) (slotOf_same act 95 _ (by omega))
        | 31, ho, hD =>
          cases ho
          have dj : slotOf act 94 = .bool false := (List.cons.inj (hD 29 (by decide))).1
          have e95 := slot_tmps (List.cons.inj (hD 30 (by decide))).1
          have hqA := (Below.block hR _ hql).trans hq6
          have hqc := cells_of hqA
          refine rgw_val (by rw [wanted_of (d := 94) rfl rfl dj]; rfl) (i64 u) (by simp [go_sem, e95, hqc]) (BR.refl _) ?_
          exact congrArg (fun v => [v]) (slotOf_same act 96 _ (by omega))
        | 32, ho, hD =>
          cases ho
          have dj : slotOf act 94 = .bool false := (List.cons.inj (hD 29 (by decide))).1
          have e9 := slot_tmps (show slotOf act 9 = .pointer (some ⟨q, 0, none⟩) from hF.slot 9 (by kernel_rfl))
          refine rgw_val (by rw [wanted_of (d := 94) rfl rfl dj]; rfl) (.pointer (some ⟨q, 1, none⟩)) (by simp [go_sem, e9]) (BR.refl _) ?_
          exact congrArg (fun v => [v]) (slotOf_same act 97 _ (by omega))
        | 33, ho, hD =>
          cases ho
          have dj : slotOf act 94 = .bool false := (List.cons.inj (hD 29 (by decide))).1
          have e97 := slot_tmps (List.cons.inj (hD 32 (by decide))).1
          have hqA := (Below.block hR _ hql).trans hq6
          have hqc := cells_of hqA
          refine rgw_val (by rw [wanted_of (d := 94) rfl rfl dj]; rfl) (i64 v) (by simp [go_sem, e97, hqc]) (BR.refl _) ?_
          exact congrArg (fun v => [v]) (slotOf_same act 98 _ (by omega))
        | 34, ho, hD =>
          cases ho
          have dj : slotOf act 94 = .bool false := (List.cons.inj (hD 29 (by decide))).1
          have e96 := slot_tmps (List.cons.inj (hD 31 (by decide))).1
          have e98 := slot_tmps (List.cons.inj (hD 33 (by decide))).1
          refine rgw_val (by rw [wanted_of (d := 94) rfl rfl dj]; rfl) (.bool false) (by simp [go_sem, e96, e98, huv1]) (BR.refl _) ?_
          exact congrArg (fun v => [v]) (slotOf_same act 99 _ (by omega))
        | 35, ho, hD =>
          cases ho
          have e94 := slot_tmps (List.cons.inj (hD 29 (by decide))).1
          have e99 := slot_tmps (List.cons.inj (hD 34 (by decide))).1
          refine rgw_val (wanted_none rfl) (.bool false) (by simp [go_sem, e94, e99]) (BR.refl _) ?_
          exact congrArg (fun v => [v]) (slotOf_same act 100 _ (by omega))
        | _ + 36, ho, _ => cases ho
      · intro act wA hR hF hA
        have f2 : slotOf act 2 = .pointer (some ⟨w.heap.size, 0, none⟩) := hF.slot 2 (by kernel_rfl)
        have f3 : slotOf act 3 = .pointer (some ⟨w.heap.size + 1, 0, none⟩) := hF.slot 3 (by kernel_rfl)
        have f4 : slotOf act 4 = .bool false := hF.slot 4 (by kernel_rfl)
        have f5 : slotOf act 5 = i64 k := hF.slot 5 (by kernel_rfl)
        have f6 : slotOf act 6 = i64 1 := hF.slot 6 (by kernel_rfl)
        have f7 : slotOf act 7 = .pointer (some ⟨p, 0, none⟩) := hF.slot 7 (by kernel_rfl)
        have f9 : slotOf act 9 = .pointer (some ⟨q, 0, none⟩) := hF.slot 9 (by kernel_rfl)
        have f10 : slotOf act 10 = i64 0 := hF.slot 10 (by kernel_rfl)
        have f65 : slotOf act 65 = i64 0 := (List.cons.inj (hA 0 (by decide))).1
        have f66 : slotOf act 66 = .bool false := (List.cons.inj (hA 1 (by decide))).1
        have f67 : slotOf act 67 = .bool false := (List.cons.inj (hA 2 (by decide))).1
        have f68 : slotOf act 68 = .pointer (some ⟨w.heap.size, 0, none⟩) := (List.cons.inj (hA 3 (by decide))).1
        have f69 : slotOf act 69 = .slice ta B.tides.length tc := (List.cons.inj (hA 4 (by decide))).1
        have f70 : slotOf act 70 = i64 k := (List.cons.inj (hA 5 (by decide))).1
        have f71 : slotOf act 71 = .pointer (some ⟨tb, tq + k * 2, none⟩) := (List.cons.inj (hA 6 (by decide))).1
        have f72 : slotOf act 72 = .agg #[i64 (tideAt B k).lo, i64 (tideAt B k).hi] := (List.cons.inj (hA 7 (by decide))).1
        have f73 : slotOf act 73 = .agg #[i64 a, i64 b] := (List.cons.inj (hA 8 (by decide))).1
        have f74 : slotOf act 74 = .bool true := (List.cons.inj (hA 9 (by decide))).1
        have f75 : slotOf act 75 = .bool false := (List.cons.inj (hA 10 (by decide))).1
        have f76 : slotOf act 76 = .bool false := (List.cons.inj (hA 11 (by decide))).1
        have f77 : slotOf act 77 = .bool false := (List.cons.inj (hA 12 (by decide))).1
        have f78 : slotOf act 78 = i64 1 := (List.cons.inj (hA 13 (by decide))).1
        have f79 : slotOf act 79 = .pointer (some ⟨w.heap.size, 1, none⟩) := (List.cons.inj (hA 14 (by decide))).1
        have f80 : slotOf act 80 = .pointer (some ⟨w.heap.size, 5, none⟩) := (List.cons.inj (hA 15 (by decide))).1
        have f81 : slotOf act 81 = .pointer (some ⟨w.heap.size, 5, none⟩) := (List.cons.inj (hA 16 (by decide))).1
        have f82 : slotOf act 82 = .agg #[i64 B.s1.fl, i64 B.s1.fh] := (List.cons.inj (hA 17 (by decide))).1
        have f83 : slotOf act 83 = .agg #[i64 u, i64 v] := (List.cons.inj (hA 18 (by decide))).1
        have f84 : slotOf act 84 = .bool true := (List.cons.inj (hA 19 (by decide))).1
        have f85 : slotOf act 85 = .bool false := (List.cons.inj (hA 20 (by decide))).1
        have f86 : slotOf act 86 = .bool false := (List.cons.inj (hA 21 (by decide))).1
        have f87 : slotOf act 87 = .bool false := (List.cons.inj (hA 22 (by decide))).1
        have f88 : slotOf act 88 = .pointer (some ⟨p, 0, none⟩) := (List.cons.inj (hA 23 (by decide))).1
        have f89 : slotOf act 89 = i64 a := (List.cons.inj (hA 24 (by decide))).1
        have f90 : slotOf act 90 = .pointer (some ⟨p, 1, none⟩) := (List.cons.inj (hA 25 (by decide))).1
        have f91 : slotOf act 91 = i64 b := (List.cons.inj (hA 26 (by decide))).1
        have f92 : slotOf act 92 = .bool false := (List.cons.inj (hA 27 (by decide))).1
        have f93 : slotOf act 93 = .bool false := (List.cons.inj (hA 28 (by decide))).1
        have f94 : slotOf act 94 = .bool false := (List.cons.inj (hA 29 (by decide))).1
        have f95 : slotOf act 95 = .pointer (some ⟨q, 0, none⟩) := (List.cons.inj (hA 30 (by decide))).1
        have f96 : slotOf act 96 = i64 u := (List.cons.inj (hA 31 (by decide))).1
        have f97 : slotOf act 97 = .pointer (some ⟨q, 1, none⟩) := (List.cons.inj (hA 32 (by decide))).1
        have f98 : slotOf act 98 = i64 v := (List.cons.inj (hA 33 (by decide))).1
        have f99 : slotOf act 99 = .bool false := (List.cons.inj (hA 34 (by decide))).1
        have f100 : slotOf act 100 = .bool false := (List.cons.inj (hA 35 (by decide))).1
        rw [act_eta act 196 hF.size hF.defers]
        simp only [show List.range 196 = [0, 1, 2, 3, 4, 5, 6, 7, 8, 9, 10, 11, 12, 13, 14, 15, 16, 17, 18, 19, 20, 21, 22, 23, 24, 25, 26, 27, 28, 29, 30, 31, 32, 33, 34, 35, 36, 37, 38, 39, 40, 41, 42, 43, 44, 45, 46, 47, 48, 49, 50, 51, 52, 53, 54, 55, 56, 57, 58, 59, 60, 61, 62, 63, 64, 65, 66, 67, 68, 69, 70, 71, 72, 73, 74, 75, 76, 77, 78, 79, 80, 81, 82, 83, 84, 85, 86, 87, 88, 89, 90, 91, 92, 93, 94, 95, 96, 97, 98, 99, 100, 101, 102, 103, 104, 105, 106, 107, 108, 109, 110, 111, 112, 113, 114, 115, 116, 117, 118, 119, 120, 121, 122, 123, 124, 125, 126, 127, 128, 129, 130, 131, 132, 133, 134, 135, 136, 137, 138, 139, 140, 141, 142, 143, 144, 145, 146, 147, 148, 149, 150, 151, 152, 153, 154, 155, 156, 157, 158, 159, 160, 161, 162, 163, 164, 165, 166, 167, 168, 169, 170, 171, 172, 173, 174, 175, 176, 177, 178, 179, 180, 181, 182, 183, 184, 185, 186, 187, 188, 189, 190, 191, 192, 193, 194, 195] from rfl, List.map_cons, List.map_nil, f2, f3, f4, f5, f6, f7, f9, f10, f65, f66, f67, f68, f69, f70, f71, f72, f73, f74, f75, f76, f77, f78, f79, f80, f81, f82, f83, f84, f85, f86, f87, f88, f89, f90, f91, f92, f93, f94, f95, f96, f97, f98, f99, f100]
        clear hA hF f2 f3 f4 f5 f6 f7 f9 f10 f65 f66 f67 f68 f69 f70 f71 f72 f73 f74 f75 f76 f77 f78 f79 f80 f81 f82 f83 f84 f85 f86 f87 f88 f89 f90 f91 f92 f93 f94 f95 f96 f97 f98 f99 f100
        have hx7 := (hR.block _ (Array.getElem?_eq_some_iff.1 hx6).1).trans hx6
        have hy7 := (hR.block _ (Array.getElem?_eq_some_iff.1 hy6).1).trans hy6
        have hp7 := (hR.block _ (Array.getElem?_eq_some_iff.1 hp6).1).trans hp6
        have hq7 := (hR.block _ (Array.getElem?_eq_some_iff.1 hq6).1).trans hq6
        have hB7 := hB6.below hR
        have hG7 := hG6.below hR
        have ha7 := ha6.trans (hR.mono ha6.size)
        have hTw7 := hT.same (Same.of_below ha7)
        have hwl7 := ha7.size
        have hxl7 := (Array.getElem?_eq_some_iff.1 hx7).1
        have hyl7 := (Array.getElem?_eq_some_iff.1 hy7).1
        have hpl7 := (Array.getElem?_eq_some_iff.1 hp7).1
        have hql7 := (Array.getElem?_eq_some_iff.1 hq7).1
        have ht9 := hV.tides _ (List.getElem_mem hk)
        rw [← htk] at ht9
        have hwi1 : -1000 ≤ (tideAt B k).lo ∧ (tideAt B k).lo ≤ (tideAt B k).hi ∧ (tideAt B k).hi ≤ 1000 := by omega
        have hwi2 : -1000 ≤ B.s1.fl ∧ B.s1.fl ≤ B.s1.fh ∧ B.s1.fh ≤ 1000 := by have := hV.sh1.fl; have := hV.sh1.ff; have := hV.sh1.fh; omega
        clear hR hx6 hy6 hp6 hq6 hB6 hG6 ha6 hTw hwl hpl hql hxl
        go_wp2_with fail
        refine rg_region rdE10s1 pureE10s1 (gE10s1 w p q k tb tq a b u v n2 n3 B ta tc) BR (by kernel_rfl) (by kernel_rfl) (fun n => BR.drawn _ n) BR.refl (fun _ _ _ => BR.trans) ?_ ?_ ?_
        · intro i hi vs wA wB hG hR
          match i, hi, hG with
          | 0, _, hG => exact hG
          | 1, _, hG => exact hG
          | 2, _, hG => exact hG
          | 3, _, hG => exact hG
          | 4, _, hG => exact hG
          | 5, _, hG => exact hG
          | 6, _, hG => exact hG
          | 7, _, hG => exact hG
          | 8, _, hG => exact hG
          | 9, _, hG => exact hG
          | 10, _, hG => exact hG
          | 11, _, hG => exact hG
          | 12, _, hG => obtain ⟨g, h1, h2⟩ := hG; exact ⟨g, h1, (hR.block _ (Array.getElem?_eq_some_iff.1 h2).1).trans h2⟩
          | 13, _, hG => exact hG
          | 14, _, hG => exact hG
          | 15, _, hG => exact hG
          | 16, _, hG => exact hG
          | 17, _, hG => exact hG
          | 18, _, hG => exact hG
          | 19, _, hG => exact hG
          | 20, _, hG => exact hG
          | 21, _, hG => exact hG
          | 22, _, hG => exact hG
          | 23, _, hG => exact hG
          | 24, _, hG => exact hG
          | 25, _, hG => obtain ⟨g, h1, h2⟩ := hG; exact ⟨g, h1, (hR.block _ (Array.getElem?_eq_some_iff.1 h2).1).trans h2⟩
          | 26, _, hG => obtain ⟨g, h1, h2⟩ := hG; exact ⟨g, h1, (hR.block _ (Array.getElem?_eq_some_iff.1 h2).1).trans h2⟩
          | 27, _, hG => obtain ⟨g, h1, h2⟩ := hG; exact ⟨g, h1, (hR.block _ (Array.getElem?_eq_some_iff.1 h2).1).trans h2⟩
          | _ + 28, _, _ => trivial
        · intro i op ho act wA hR hF hD
          have sz : act.tmps.size = 196 := hF.size
          match i, ho, hD with
          | 0, ho, hD =>
            cases ho
            have e7 := slot_tmps (show slotOf act 7 = .pointer (some ⟨p, 0, none⟩) from hF.slot 7 (by kernel_rfl))
            refine rgw_val (wanted_none rfl) (.pointer (some ⟨p, 0, none⟩)) (by simp [go_sem, e7]) (BR.refl _) ?_
            exact congrArg (fun v => [v]) (slotOf_same act 101 _ (by omega))
          | 1, ho, hD =>
            cases ho
            have e101 := slot_tmps (List.cons.inj (hD 0 (by decide))).1
            have hpA := (Below.block hR _ hpl7).trans hp7
            have hpc := cells_of hpA
            refine rgw_val (wanted_none rfl) (i64 a) (by simp [go_sem, e101, hpc]) (BR.refl _) ?_
            exact congrArg (fun v => [v]) (slotOf_same act 102 _ (by omega))
          | 2, ho, hD =>
            cases ho
            have e7 := slot_tmps (show slotOf act 7 = .pointer (some ⟨p, 0, none⟩) from hF.slot 7 (by kernel_rfl))
            refine rgw_val (wanted_none rfl) (.pointer (some ⟨p, 1, none⟩)) (by simp [go_sem, e7]) (BR.refl _) ?_
            exact congrArg (fun v => [v]) (slotOf_same act 103 _ (by omega))
          | 3, ho, hD =>
            cases ho
            have e103 := slot_tmps (List.cons.inj (hD 2 (by decide))).1
            have hpA := (Below.block hR _ hpl7).trans hp7
            have hpc := cells_of hpA
            refine rgw_val (wanted_none rfl) (i64 b) (by simp [go_sem, e103, hpc]) (BR.refl _) ?_
            exact congrArg (fun v => [v]) (slotOf_same act 104 _ (by omega))
          | 4, ho, hD =>
            cases ho
            have e2 := slot_tmps (show slotOf act 2 = .pointer (some ⟨w.heap.size, 0, none⟩) from hF.slot 2 (by kernel_rfl))
            refine rgw_val (wanted_none rfl) (.pointer (some ⟨w.heap.size, 0, none⟩)) (by simp [go_sem, e2]) (BR.refl _) ?_
            exact congrArg (fun v => [v]) (slotOf_same act 105 _ (by omega))
          | 5, ho, hD =>
            cases ho
            have e105 := slot_tmps (List.cons.inj (hD 4 (by decide))).1
            have hxA := (Below.block hR _ hxl7).trans hx7
            have hxc := cells_of hxA
            refine rgw_val (wanted_none rfl) (.slice ta B.tides.length tc) (by simp [go_sem, e105, hxc]) (BR.refl _) ?_
            exact congrArg (fun v => [v]) (slotOf_same act 106 _ (by omega))
          | 6, ho, hD =>
            cases ho
            have e5 := slot_tmps (show slotOf act 5 = i64 k from hF.slot 5 (by kernel_rfl))
            refine rgw_val (wanted_none rfl) (i64 k) (by simp [go_sem, e5]) (BR.refl _) ?_
            exact congrArg (fun v => [v]) (slotOf_same act 107 _ (by omega))
          | 7, ho, hD =>
            cases ho
            have e106 := slot_tmps (List.cons.inj (hD 5 (by decide))).1
            have e107 := slot_tmps (List.cons.inj (hD 6 (by decide))).1
            refine rgw_val (wanted_none rfl) (.pointer (some ⟨tb, tq + k * 2, none⟩)) (by simp [go_sem, e106, e107, hi22]) (BR.refl _) ?_
            exact congrArg (fun v => [v]) (slotOf_same act 108 _ (by omega))
          | 8, ho, hD =>
            cases ho
            have e108 := slot_tmps (List.cons.inj (hD 7 (by decide))).1
            have hTA := hTw7.same (Same.of_below (Below.mono hR hwl7))
            have ct1 := hTA.lo k hk
            have ct2 := hTA.hi k hk
            refine rgw_val (wanted_none rfl) (.agg #[i64 (tideAt B k).lo, i64 (tideAt B k).hi]) (by simp [go_sem, e108, ct1, ct2, htk]) (BR.refl _) ?_
            exact congrArg (fun v => [v]) (slotOf_same act 109 _ (by omega))
          | 9, ho, hD =>
            cases ho
            have e3 := slot_tmps (show slotOf act 3 = .pointer (some ⟨w.heap.size + 1, 0, none⟩) from hF.slot 3 (by kernel_rfl))
            refine rgw_val (wanted_none rfl) (.pointer (some ⟨w.heap.size + 1, 2, none⟩)) (by simp [go_sem, e3]) (BR.refl _) ?_
            exact congrArg (fun v => [v]) (slotOf_same act 110 _ (by omega))
          | 10, ho, hD =>
            cases ho
            have e110 := slot_tmps (List.cons.inj (hD 9 (by decide))).1
            have hyA := (Below.block hR _ hyl7).trans hy7
            have hyc := cells_of hyA
            refine rgw_val (wanted_none rfl) (i64 n2) (by simp [go_sem, e110, hyc]) (BR.refl _) ?_
            exact congrArg (fun v => [v]) (slotOf_same act 111 _ (by omega))
          | 11, ho, hD =>
            cases ho
            have e109 := slot_tmps (List.cons.inj (hD 8 (by decide))).1
            have e111 := slot_tmps (List.cons.inj (hD 10 (by decide))).1
            refine rgw_call (wanted_none rfl) 39 #[.agg #[i64 (tideAt B k).lo, i64 (tideAt B k).hi], i64 n2] (by simp [go_sem, e109, e111]) rfl ?_
            refine (withinI_any _ _ _ _ hwi1.1 hwi1.2.1 hwi1.2.2).mono ?_
            rintro e wB ⟨rfl, hb⟩
            exact ⟨_, rfl, hb, congrArg (fun v => [v]) (slotOf_same act 112 _ (by omega))⟩
          | 12, ho, hD =>
            cases ho
            have e102 := slot_tmps (List.cons.inj (hD 1 (by decide))).1
            have e104 := slot_tmps (List.cons.inj (hD 3 (by decide))).1
            have e112 := slot_tmps (List.cons.inj (hD 11 (by decide))).1
            refine rgw_wp (wanted_none rfl) rfl ?_
            refine wp_of_run (v := .slice (some ⟨wA.heap.size, 0, none⟩) 3 3) (w' := wA.alloc (.cells #[i64 a, i64 b, i64 (withinI (tideAt B k).lo (tideAt B k).hi n2)] 3)) (by simp [go_sem, e102, e104, e112]) ?_
            exact ⟨_, rfl, (Below.refl _ _).alloc (Nat.le_refl _) _, _, congrArg (fun v => [v]) (slotOf_same act 113 _ (by omega)), heap_alloc_new _ _⟩
          | 13, ho, hD =>
            cases ho
            have e9 := slot_tmps (show slotOf act 9 = .pointer (some ⟨q, 0, none⟩) from hF.slot 9 (by kernel_rfl))
            refine rgw_val (wanted_none rfl) (.pointer (some ⟨q, 0, none⟩)) (by simp [go_sem, e9]) (BR.refl _) ?_
            exact congrArg (fun v => [v]) (slotOf_same act 114 _ (by omega))
          | 14, ho, hD =>
            cases ho
            have e114 := slot_tmps (List.cons.inj (hD 13 (by decide))).1
            have hqA := (Below.block hR _ hql7).trans hq7
            have hqc := cells_of hqA
            refine rgw_val (wanted_none rfl) (i64 u) (by simp [go_sem, e114, hqc]) (BR.refl _) ?_
            exact congrArg (fun v => [v]) (slotOf_same act 115 _ (by omega))
          | 15, ho, hD =>
            cases ho
            have e9 := slot_tmps (show slotOf act 9 = .pointer (some ⟨q, 0, none⟩) from hF.slot 9 (by kernel_rfl))
            refine rgw_val (wanted_none rfl) (.pointer (some ⟨q, 1, none⟩)) (by simp [go_sem, e9]) (BR.refl _) ?_
            exact congrArg (fun v => [v]) (slotOf_same act 116 _ (by omega))
          | 16, ho, hD =>
            cases ho
            have e116 := slot_tmps (List.cons.inj (hD 15 (by decide))).1
            have hqA := (Below.block hR _ hql7).trans hq7
            have hqc := cells_of hqA
            refine rgw_val (wanted_none rfl) (i64 v) (by simp [go_sem, e116, hqc]) (BR.refl _) ?_
            exact congrArg (fun v => [v]) (slotOf_same act 117 _ (by omega))
          | 17, ho, hD =>
            cases ho
            have e6 := slot_tmps (show slotOf act 6 = i64 1 from hF.slot 6 (by kernel_rfl))
            refine rgw_val (wanted_none rfl) (i64 1) (by simp [go_sem, e6]) (BR.refl _) ?_
            exact congrArg (fun v => [v]) (slotOf_same act 118 _ (by omega))
          | 18, ho, hD =>
            cases ho
            have e2 := slot_tmps (show slotOf act 2 = .pointer (some ⟨w.heap.size, 0, none⟩) from hF.slot 2 (by kernel_rfl))
            refine rgw_val (wanted_none rfl) (.pointer (some ⟨w.heap.size, 1, none⟩)) (by simp [go_sem, e2]) (BR.refl _) ?_
            exact congrArg (fun v => [v]) (slotOf_same act 119 _ (by omega))
          | 19, ho, hD =>
            cases ho
            have e118 := slot_tmps (List.cons.inj (hD 17 (by decide))).1
            have e119 := slot_tmps (List.cons.inj (hD 18 (by decide))).1
            refine rgw_val (wanted_none rfl) (.pointer (some ⟨w.heap.size, 5, none⟩)) (by simp [go_sem, e118, e119]) (BR.refl _) ?_
            exact congrArg (fun v => [v]) (slotOf_same act 120 _ (by omega))
          | 20, ho, hD =>
            cases ho
            have e120 := slot_tmps (List.cons.inj (hD 19 (by decide))).1
            refine rgw_val (wanted_none rfl) (.pointer (some ⟨w.heap.size, 5, none⟩)) (by simp [go_sem, e120]) (BR.refl _) ?_
            exact congrArg (fun v => [v]) (slotOf_same act 121 _ (by omega))
          | 21, ho, hD =>
            cases ho
            have e121 := slot_tmps (List.cons.inj (hD 20 (by decide))).1
            have hxA := (Below.block hR _ hxl7).trans hx7
            have hxc := cells_of hxA
            refine rgw_val (wanted_none rfl) (.agg #[i64 B.s1.fl, i64 B.s1.fh]) (by simp [go_sem, e121, hxc]) (BR.refl _) ?_
            exact congrArg (fun v => [v]) (slotOf_same act 122 _ (by omega))
          | 22, ho, hD =>
            cases ho
            have e3 := slot_tmps (show slotOf act 3 = .pointer (some ⟨w.heap.size + 1, 0, none⟩) from hF.slot 3 (by kernel_rfl))
            refine rgw_val (wanted_none rfl) (.pointer (some ⟨w.heap.size + 1, 3, none⟩)) (by simp [go_sem, e3]) (BR.refl _) ?_
            exact congrArg (fun v => [v]) (slotOf_same act 123 _ (by omega))
          | 23, ho, hD =>
            cases ho
            have e123 := slot_tmps (List.cons.inj (hD 22 (by decide))).1
            have hyA := (Below.block hR _ hyl7).trans hy7
            have hyc := cells_of hyA
            refine rgw_val (wanted_none rfl) (i64 n3) (by simp [go_sem, e123, hyc]) (BR.refl _) ?_
            exact congrArg (fun v => [v]) (slotOf_same act 124 _ (by omega))
          | 24, ho, hD =>
            cases ho
            have e122 := slot_tmps (List.cons.inj (hD 21 (by decide))).1
            have e124 := slot_tmps (List.cons.inj (hD 23 (by decide))).1
            refine rgw_call (wanted_none rfl) 39 #[.agg #[i64 B.s1.fl, i64 B.s1.fh], i64 n3] (by simp [go_sem, e122, e124]) rfl ?_
            refine (withinI_any _ _ _ _ hwi2.1 hwi2.2.1 hwi2.2.2).mono ?_
            rintro e wB ⟨rfl, hb⟩
            exact ⟨_, rfl, hb, congrArg (fun v => [v]) (slotOf_same act 125 _ (by omega))⟩
          | 25, ho, hD =>
            cases ho
            have e115 := slot_tmps (List.cons.inj (hD 14 (by decide))).1
            have e117 := slot_tmps (List.cons.inj (hD 16 (by decide))).1
            have e125 := slot_tmps (List.cons.inj (hD 24 (by decide))).1
            refine rgw_wp (wanted_none rfl) rfl ?_
            refine wp_of_run (v := .slice (some ⟨wA.heap.size, 0, none⟩) 3 3) (w' := wA.alloc (.cells #[i64 u, i64 v, i64 (withinI B.s1.fl B.s1.fh n3)] 3)) (by simp [go_sem, e115, e117, e125]) ?_
            exact ⟨_, rfl, (Below.refl _ _).alloc (Nat.le_refl _) _, _, congrArg (fun v => [v]) (slotOf_same act 126 _ (by omega)), heap_alloc_new _ _⟩
          | 26, ho, hD =>
            cases ho
            obtain ⟨g12, db12, hg12⟩ := hD 12 (by decide)
            have e113 := slot_tmps (List.cons.inj db12).1
            refine rgw_val (wanted_none rfl) (.slice (some ⟨g12, 0, none⟩) 3 3) (by simp [go_sem, e113]) (BR.refl _) ?_
            exact ⟨_, congrArg (fun v => [v]) (slotOf_same act 11 _ (by omega)), hg12⟩
          | 27, ho, hD =>
            cases ho
            obtain ⟨g25, db25, hg25⟩ := hD 25 (by decide)
            have e126 := slot_tmps (List.cons.inj db25).1
            refine rgw_val (wanted_none rfl) (.slice (some ⟨g25, 0, none⟩) 3 3) (by simp [go_sem, e126]) (BR.refl _) ?_
            exact ⟨_, congrArg (fun v => [v]) (slotOf_same act 12 _ (by omega)), hg25⟩
          | _ + 28, ho, _ => cases ho
        · intro act wA hR hF hA
          have f2 : slotOf act 2 = .pointer (some ⟨w.heap.size, 0, none⟩) := hF.slot 2 (by kernel_rfl)
          have f3 : slotOf act 3 = .pointer (some ⟨w.heap.size + 1, 0, none⟩) := hF.slot 3 (by kernel_rfl)
          have f4 : slotOf act 4 = .bool false := hF.slot 4 (by kernel_rfl)
          have f5 : slotOf act 5 = i64 k := hF.slot 5 (by kernel_rfl)
          have f6 : slotOf act 6 = i64 1 := hF.slot 6 (by kernel_rfl)
          have f7 : slotOf act 7 = .pointer (some ⟨p, 0, none⟩) := hF.slot 7 (by kernel_rfl)
          have f9 : slotOf act 9 = .pointer (some ⟨q, 0, none⟩) := hF.slot 9 (by kernel_rfl)
          obtain ⟨gl, d11, hgl⟩ := hA 26 (by decide)
          have f11 : slotOf act 11 = .slice (some ⟨gl, 0, none⟩) 3 3 := (List.cons.inj d11).1
          obtain ⟨gm, d12, hgm⟩ := hA 27 (by decide)
          have f12 : slotOf act 12 = .slice (some ⟨gm, 0, none⟩) 3 3 := (List.cons.inj d12).1
          have f101 : slotOf act 101 = .pointer (some ⟨p, 0, none⟩) := (List.cons.inj (hA 0 (by decide))).1
          have f102 : slotOf act 102 = i64 a := (List.cons.inj (hA 1 (by decide))).1
          have f103 : slotOf act 103 = .pointer (some ⟨p, 1, none⟩) := (List.cons.inj (hA 2 (by decide))).1
          have f104 : slotOf act 104 = i64 b := (List.cons.inj (hA 3 (by decide))).1
          have f105 : slotOf act 105 = .pointer (some ⟨w.heap.size, 0, none⟩) := (List.cons.inj (hA 4 (by decide))).1
          have f106 : slotOf act 106 = .slice ta B.tides.length tc := (List.cons.inj (hA 5 (by decide))).1
          have f107 : slotOf act 107 = i64 k := (List.cons.inj (hA 6 (by decide))).1
          have f108 : slotOf act 108 = .pointer (some ⟨tb, tq + k * 2, none⟩) := (List.cons.inj (hA 7 (by decide))).1
          have f109 : slotOf act 109 = .agg #[i64 (tideAt B k).lo, i64 (tideAt B k).hi] := (List.cons.inj (hA 8 (by decide))).1
          have f110 : slotOf act 110 = .pointer (some ⟨w.heap.size + 1, 2, none⟩) := (List.cons.inj (hA 9 (by decide))).1
          have f111 : slotOf act 111 = i64 n2 := (List.cons.inj (hA 10 (by decide))).1
          have f112 : slotOf act 112 = i64 (withinI (tideAt B k).lo (tideAt B k).hi n2) := (List.cons.inj (hA 11 (by decide))).1
          have f114 : slotOf act 114 = .pointer (some ⟨q, 0, none⟩) := (List.cons.inj (hA 13 (by decide))).1
          have f115 : slotOf act 115 = i64 u := (List.cons.inj (hA 14 (by decide))).1
          have f116 : slotOf act 116 = .pointer (some ⟨q, 1, none⟩) := (List.cons.inj (hA 15 (by decide))).1
          have f117 : slotOf act 117 = i64 v := (List.cons.inj (hA 16 (by decide))).1
          have f118 : slotOf act 118 = i64 1 := (List.cons.inj (hA 17 (by decide))).1
          have f119 : slotOf act 119 = .pointer (some ⟨w.heap.size, 1, none⟩) := (List.cons.inj (hA 18 (by decide))).1
          have f120 : slotOf act 120 = .pointer (some ⟨w.heap.size, 5, none⟩) := (List.cons.inj (hA 19 (by decide))).1
          have f121 : slotOf act 121 = .pointer (some ⟨w.heap.size, 5, none⟩) := (List.cons.inj (hA 20 (by decide))).1
          have f122 : slotOf act 122 = .agg #[i64 B.s1.fl, i64 B.s1.fh] := (List.cons.inj (hA 21 (by decide))).1
          have f123 : slotOf act 123 = .pointer (some ⟨w.heap.size + 1, 3, none⟩) := (List.cons.inj (hA 22 (by decide))).1
          have f124 : slotOf act 124 = i64 n3 := (List.cons.inj (hA 23 (by decide))).1
          have f125 : slotOf act 125 = i64 (withinI B.s1.fl B.s1.fh n3) := (List.cons.inj (hA 24 (by decide))).1
          rw [act_eta act 196 hF.size hF.defers]
          simp only [show List.range 196 = [0, 1, 2, 3, 4, 5, 6, 7, 8, 9, 10, 11, 12, 13, 14, 15, 16, 17, 18, 19, 20, 21, 22, 23, 24, 25, 26, 27, 28, 29, 30, 31, 32, 33, 34, 35, 36, 37, 38, 39, 40, 41, 42, 43, 44, 45, 46, 47, 48, 49, 50, 51, 52, 53, 54, 55, 56, 57, 58, 59, 60, 61, 62, 63, 64, 65, 66, 67, 68, 69, 70, 71, 72, 73, 74, 75, 76, 77, 78, 79, 80, 81, 82, 83, 84, 85, 86, 87, 88, 89, 90, 91, 92, 93, 94, 95, 96, 97, 98, 99, 100, 101, 102, 103, 104, 105, 106, 107, 108, 109, 110, 111, 112, 113, 114, 115, 116, 117, 118, 119, 120, 121, 122, 123, 124, 125, 126, 127, 128, 129, 130, 131, 132, 133, 134, 135, 136, 137, 138, 139, 140, 141, 142, 143, 144, 145, 146, 147, 148, 149, 150, 151, 152, 153, 154, 155, 156, 157, 158, 159, 160, 161, 162, 163, 164, 165, 166, 167, 168, 169, 170, 171, 172, 173, 174, 175, 176, 177, 178, 179, 180, 181, 182, 183, 184, 185, 186, 187, 188, 189, 190, 191, 192, 193, 194, 195] from rfl, List.map_cons, List.map_nil, f2, f3, f4, f5, f6, f7, f9, f11, f12, f101, f102, f103, f104, f105, f106, f107, f108, f109, f110, f111, f112, f114, f115, f116, f117, f118, f119, f120, f121, f122, f123, f124, f125]
          clear hA hF f2 f3 f4 f5 f6 f7 f9 f11 f12 f101 f102 f103 f104 f105 f106 f107 f108 f109 f110 f111 f112 f114 f115 f116 f117 f118 f119 f120 f121 f122 f123 f124 f125
          have hx8 := (hR.block _ (Array.getElem?_eq_some_iff.1 hx7).1).trans hx7
          have hy8 := (hR.block _ (Array.getElem?_eq_some_iff.1 hy7).1).trans hy7
          have hp8 := (hR.block _ (Array.getElem?_eq_some_iff.1 hp7).1).trans hp7
          have hq8 := (hR.block _ (Array.getElem?_eq_some_iff.1 hq7).1).trans hq7
          have hB8 := hB7.below hR
          have hG8 := hG7.below hR
          have ha8 := ha7.trans (hR.mono ha7.size)
          clear hR
          obtain ⟨W8, hW8⟩ : ∃ W8, wA = W8 := ⟨_, rfl⟩
          subst hW8
          go_wp2_with fail
          refine wp_loop (fun act W => ∃ j : Nat, j ≤ 3 ∧ EndI w wA p q gl gm k 1 j act W) (fun act _ => 3 - (intOf (slotOf act 13)).toNat) ?_ ?_
          · exact ⟨0, by omega, rfl, rfl, rfl, rfl, rfl, rfl, rfl, rfl, rfl, rfl, rfl, Below.refl _ _⟩
          · rintro act W9 ⟨j, hj, hsz, hdf, s2, s4, s5, s6, s7, s9, s11, s12, s13, hb9⟩
            rw [act_eta act 196 hsz hdf]
            simp only [show List.range 196 = [0, 1, 2, 3, 4, 5, 6, 7, 8, 9, 10, 11, 12, 13, 14, 15, 16, 17, 18, 19, 20, 21, 22, 23, 24, 25, 26, 27, 28, 29, 30, 31, 32, 33, 34, 35, 36, 37, 38, 39, 40, 41, 42, 43, 44, 45, 46, 47, 48, 49, 50, 51, 52, 53, 54, 55, 56, 57, 58, 59, 60, 61, 62, 63, 64, 65, 66, 67, 68, 69, 70, 71, 72, 73, 74, 75, 76, 77, 78, 79, 80, 81, 82, 83, 84, 85, 86, 87, 88, 89, 90, 91, 92, 93, 94, 95, 96, 97, 98, 99, 100, 101, 102, 103, 104, 105, 106, 107, 108, 109, 110, 111, 112, 113, 114, 115, 116, 117, 118, 119, 120, 121, 122, 123, 124, 125, 126, 127, 128, 129, 130, 131, 132, 133, 134, 135, 136, 137, 138, 139, 140, 141, 142, 143, 144, 145, 146, 147, 148, 149, 150, 151, 152, 153, 154, 155, 156, 157, 158, 159, 160, 161, 162, 163, 164, 165, 166, 167, 168, 169, 170, 171, 172, 173, 174, 175, 176, 177, 178, 179, 180, 181, 182, 183, 184, 185, 186, 187, 188, 189, 190, 191, 192, 193, 194, 195] from rfl, List.map_cons, List.map_nil, s2, s4, s5, s6, s7, s9, s11, s12, s13]
            by_cases hj3 : j < 3
            · have hj3i : (j : Int) < 3 := by omega
              have hx9 := (hb9.block _ (Array.getElem?_eq_some_iff.1 hx8).1).trans hx8
              have hy9 := (hb9.block _ (Array.getElem?_eq_some_iff.1 hy8).1).trans hy8
              have hp9 := (hb9.block _ (Array.getElem?_eq_some_iff.1 hp8).1).trans hp8
              have hq9 := (hb9.block _ (Array.getElem?_eq_some_iff.1 hq8).1).trans hq8
              have hB9 := hB8.below hb9
              have hG9 := hG8.below hb9
              have ha9 := ha8.trans (hb9.mono ha8.size)
              have hgl9 := (hb9.block _ (Array.getElem?_eq_some_iff.1 hgl).1).trans hgl
              have hgm9 := (hb9.block _ (Array.getElem?_eq_some_iff.1 hgm).1).trans hgm
              have hwr1 := withinI_range (n := n2) hwi1.2.1
              have hwr2 := withinI_range (n := n3) hwi2.2.1
              obtain ⟨x, hxe, hx1, hx2, hx3⟩ : ∃ x, (#[i64 a, i64 b, i64 (withinI (tideAt B k).lo (tideAt B k).hi n2)] : Array Value)[j]? = some (i64 x) ∧ (tideAt B k).lo ≤ x ∧ x ≤ (tideAt B k).hi ∧ (j < 2 → x = a ∨ x = b) := by
                rcases (by omega : j = 0 ∨ j = 1 ∨ j = 2) with rfl | rfl | rfl
                · exact ⟨a, rfl, by omega, by omega, fun _ => .inl rfl⟩
                · exact ⟨b, rfl, by omega, by omega, fun _ => .inr rfl⟩
                · exact ⟨_, rfl, hwr1.1, hwr1.2, fun h => by omega⟩
              obtain ⟨y, hye, hy1, hy2, hy3⟩ : ∃ y, (#[i64 u, i64 v, i64 (withinI B.s1.fl B.s1.fh n3)] : Array Value)[j]? = some (i64 y) ∧ B.s1.fl ≤ y ∧ y ≤ B.s1.fh ∧ (j < 2 → y = u ∨ y = v) := by
                have h9 := hfa
                simp [flOf, fhOf] at h9
                rcases (by omega : j = 0 ∨ j = 1 ∨ j = 2) with rfl | rfl | rfl
                · exact ⟨u, rfl, by omega, by omega, fun _ => .inl rfl⟩
                · exact ⟨v, rfl, by omega, by omega, fun _ => .inr rfl⟩
                · exact ⟨_, rfl, hwr2.1, hwr2.2, fun h => by omega⟩
              obtain ⟨is, his, his2, his3⟩ := hT1 x hx1 hx2
              obtain ⟨so, hso, hso2, hso3⟩ := hF1 y (by simpa [flOf] using hy1) (by simpa [fhOf] using hy2)
              rw [Int.toNat_natCast] at his
              have hisj : j < 2 → is = true := fun h => his2 (hx3 h)
              have hsoj : j < 2 → so = true := fun h => hso2 (hy3 h)
              have cx9 : W9.cell? ⟨gl, j, none⟩ = some (i64 x) := (cells_of hgl9 j).trans hxe
              have cy9 : W9.cell? ⟨gm, j, none⟩ = some (i64 y) := (cells_of hgm9 j).trans hye
              have hgl9l := (Array.getElem?_eq_some_iff.1 hgl9).1
              have hgm9l := (Array.getElem?_eq_some_iff.1 hgm9).1
              have hxl9 := (Array.getElem?_eq_some_iff.1 hx9).1
              have hpl9 := (Array.getElem?_eq_some_iff.1 hp9).1
              have hql9 := (Array.getElem?_eq_some_iff.1 hq9).1
              have higl : ∀ W, (Instr.indexAt 40 (.slice (some ⟨gl, 0, none⟩) 3 3) (.int .i64 (j : Int))).run Tryd.prog W = .ok (.pointer (some ⟨gl, j, none⟩)) W := fun W => by simpa using idx40 (o := 0) (b := gl) (a := some ⟨gl, 0, none⟩) (n := 3) (k := j) (c := 3) W rfl hj3
              have higm : ∀ W, (Instr.indexAt 40 (.slice (some ⟨gm, 0, none⟩) 3 3) (.int .i64 (j : Int))).run Tryd.prog W = .ok (.pointer (some ⟨gm, j, none⟩)) W := fun W => by simpa using idx40 (o := 0) (b := gm) (a := some ⟨gm, 0, none⟩) (n := 3) (k := j) (c := 3) W rfl hj3
              clear hgl9 hgm9 hwr1 hwr2 hxe hye his2 hso2
              go_wp2_with fail
              refine rg_region rdE14s1 pureE14s1 (gE14s1 gl k j x is B ta tc sa sc) BR (by kernel_rfl) (by kernel_rfl) (fun n => BR.drawn _ n) BR.refl (fun _ _ _ => BR.trans) ?_ ?_ ?_
              · intro i hi vs wA wB hG hR
                match i, hi, hG with
                | 0, _, hG => exact hG
                | 1, _, hG => exact hG
                | 2, _, hG => exact hG
                | 3, _, hG => exact hG
                | 4, _, hG => exact hG
                | 5, _, hG => exact hG
                | 6, _, hG => obtain ⟨v, h1, h2⟩ := hG; exact ⟨v, h1, h2.below hR⟩
                | 7, _, hG => exact hG
                | 8, _, hG => exact hG
                | 9, _, hG => exact hG
                | 10, _, hG => exact hG
                | 11, _, hG => exact hG
                | 12, _, hG => exact hG
                | _ + 13, _, _ => trivial
              · intro i op ho act wA hR hF hD
                have sz : act.tmps.size = 196 := hF.size
                match i, ho, hD with
                | 0, ho, hD =>
                  cases ho
                  have e2 := slot_tmps (show slotOf act 2 = .pointer (some ⟨w.heap.size, 0, none⟩) from hF.slot 2 (by kernel_rfl))
                  refine rgw_val (wanted_none rfl) (.agg (bookCells B ta tc sa sc)) (by exact ex_load_row (a := act) 30 (.tmp 2) rfl w.heap.size (show slotOf act 2 = .pointer (some ⟨w.heap.size, 0, none⟩) from hF.slot 2 (by kernel_rfl)) 30 _ (0, 0) _ ((Below.block hR _ hxl9).trans hx9) Tryd.underlying30 rfl (by rw [size30]; rfl)) (BR.refl _) ?_
                  exact congrArg (fun v => [v]) (slotOf_same act 132 _ (by omega))
                | 1, ho, hD =>
                  cases ho
                  have e5 := slot_tmps (show slotOf act 5 = i64 k from hF.slot 5 (by kernel_rfl))
                  refine rgw_val (wanted_none rfl) (i64 k) (by simp [go_sem, e5]) (BR.refl _) ?_
                  exact congrArg (fun v => [v]) (slotOf_same act 133 _ (by omega))
                | 2, ho, hD =>
                  cases ho
                  have e11 := slot_tmps (show slotOf act 11 = .slice (some ⟨gl, 0, none⟩) 3 3 from hF.slot 11 (by kernel_rfl))
                  refine rgw_val (wanted_none rfl) (.slice (some ⟨gl, 0, none⟩) 3 3) (by simp [go_sem, e11]) (BR.refl _) ?_
                  exact congrArg (fun v => [v]) (slotOf_same act 134 _ (by omega))
                | 3, ho, hD =>
                  cases ho
                  have e13 := slot_tmps (show slotOf act 13 = i64 j from hF.slot 13 (by kernel_rfl))
                  refine rgw_val (wanted_none rfl) (i64 j) (by simp [go_sem, e13]) (BR.refl _) ?_
                  exact congrArg (fun v => [v]) (slotOf_same act 135 _ (by omega))
                | 4, ho, hD =>
                  cases ho
                  have e134 := slot_tmps (List.cons.inj (hD 2 (by decide))).1
                  have e135 := slot_tmps (List.cons.inj (hD 3 (by decide))).1
                  refine rgw_val (wanted_none rfl) (.pointer (some ⟨gl, j, none⟩)) (by simp [go_sem, e134, e135, higl]) (BR.refl _) ?_
                  exact congrArg (fun v => [v]) (slotOf_same act 136 _ (by omega))
                | 5, ho, hD =>
                  cases ho
                  have e136 := slot_tmps (List.cons.inj (hD 4 (by decide))).1
                  have cxA := (Below.cell hR (p := ⟨gl, j, none⟩) hgl9l).trans cx9
                  refine rgw_val (wanted_none rfl) (i64 x) (by simp [go_sem, e136, cxA]) (BR.refl _) ?_
                  exact congrArg (fun v => [v]) (slotOf_same act 137 _ (by omega))
                | 6, ho, hD =>
                  cases ho
                  have e132 := slot_tmps (List.cons.inj (hD 0 (by decide))).1
                  have e133 := slot_tmps (List.cons.inj (hD 1 (by decide))).1
                  have e137 := slot_tmps (List.cons.inj (hD 5 (by decide))).1
                  refine rgw_call (wanted_none rfl) 40 #[bookVal B ta tc sa sc, i64 k, i64 x] (by simp [go_sem, e132, e133, e137]) rfl ?_
                  refine (setTide_v (hB9.below hR) k x hk h24).mono ?_
                  rintro e wB ⟨v, rfl, hb, hBv⟩
                  exact ⟨_, rfl, hb, v, congrArg (fun v => [v]) (slotOf_same act 138 _ (by omega)), hBv⟩
                | 7, ho, hD =>
                  cases ho
                  obtain ⟨v, d138, hBv⟩ := hD 6 (by decide)
                  have e138 := slot_tmps (List.cons.inj d138).1
                  refine rgw_call (wanted_none rfl) 25 #[v] (by simp [go_sem, e138]) rfl ?_
                  refine (right_v (hG9.below hR) hBv).mono ?_
                  rintro e wB ⟨rfl, hb⟩
                  rw [his]
                  exact ⟨_, rfl, hb, congrArg (fun v => [v]) (slotOf_same act 139 _ (by omega))⟩
                | 8, ho, hD =>
                  cases ho
                  have e139 := slot_tmps (List.cons.inj (hD 7 (by decide))).1
                  refine rgw_val (wanted_none rfl) (.tuple #[.bool is, i64 0]) (by simp [go_sem, e139]) (BR.refl _) ?_
                  exact congrArg (fun v => [v]) (slotOf_same act 131 _ (by omega))
                | 9, ho, hD =>
                  cases ho
                  have e131 := slot_tmps (List.cons.inj (hD 8 (by decide))).1
                  refine rgw_val (wanted_none rfl) (.bool is) (by simp [go_sem, e131]) (BR.refl _) ?_
                  exact congrArg (fun v => [v]) (slotOf_same act 140 _ (by omega))
                | 10, ho, hD =>
                  cases ho
                  have e131 := slot_tmps (List.cons.inj (hD 8 (by decide))).1
                  refine rgw_val (wanted_none rfl) (i64 0) (by simp [go_sem, e131]) (BR.refl _) ?_
                  exact congrArg (fun v => [v]) (slotOf_same act 141 _ (by omega))
                | 11, ho, hD =>
                  cases ho
                  have e140 := slot_tmps (List.cons.inj (hD 9 (by decide))).1
                  refine rgw_val (wanted_none rfl) (.bool is) (by simp [go_sem, e140]) (BR.refl _) ?_
                  exact congrArg (fun v => [v]) (slotOf_same act 14 _ (by omega))
                | 12, ho, hD =>
                  cases ho
                  have e141 := slot_tmps (List.cons.inj (hD 10 (by decide))).1
                  refine rgw_val (wanted_none rfl) (i64 0) (by simp [go_sem, e141]) (BR.refl _) ?_
                  exact congrArg (fun v => [v]) (slotOf_same act 15 _ (by omega))
                | _ + 13, ho, _ => cases ho
              · intro act wA hR hF hA
                have f2 : slotOf act 2 = .pointer (some ⟨w.heap.size, 0, none⟩) := hF.slot 2 (by kernel_rfl)
                have f4 : slotOf act 4 = .bool false := hF.slot 4 (by kernel_rfl)
                have f5 : slotOf act 5 = i64 k := hF.slot 5 (by kernel_rfl)
                have f6 : slotOf act 6 = i64 1 := hF.slot 6 (by kernel_rfl)
                have f7 : slotOf act 7 = .pointer (some ⟨p, 0, none⟩) := hF.slot 7 (by kernel_rfl)
                have f9 : slotOf act 9 = .pointer (some ⟨q, 0, none⟩) := hF.slot 9 (by kernel_rfl)
                have f11 : slotOf act 11 = .slice (some ⟨gl, 0, none⟩) 3 3 := hF.slot 11 (by kernel_rfl)
                have f12 : slotOf act 12 = .slice (some ⟨gm, 0, none⟩) 3 3 := hF.slot 12 (by kernel_rfl)
                have f13 : slotOf act 13 = i64 j := hF.slot 13 (by kernel_rfl)
                have f14 : slotOf act 14 = .bool is := (List.cons.inj (hA 11 (by decide))).1
                have f15 : slotOf act 15 = i64 0 := (List.cons.inj (hA 12 (by decide))).1
                have f131 : slotOf act 131 = .tuple #[.bool is, i64 0] := (List.cons.inj (hA 8 (by decide))).1
                have f132 : slotOf act 132 = .agg (bookCells B ta tc sa sc) := (List.cons.inj (hA 0 (by decide))).1
                have f133 : slotOf act 133 = i64 k := (List.cons.inj (hA 1 (by decide))).1
                have f134 : slotOf act 134 = .slice (some ⟨gl, 0, none⟩) 3 3 := (List.cons.inj (hA 2 (by decide))).1
                have f135 : slotOf act 135 = i64 j := (List.cons.inj (hA 3 (by decide))).1
                have f136 : slotOf act 136 = .pointer (some ⟨gl, j, none⟩) := (List.cons.inj (hA 4 (by decide))).1
                have f137 : slotOf act 137 = i64 x := (List.cons.inj (hA 5 (by decide))).1
                have f139 : slotOf act 139 = .tuple #[.bool is, i64 0] := (List.cons.inj (hA 7 (by decide))).1
                have f140 : slotOf act 140 = .bool is := (List.cons.inj (hA 9 (by decide))).1
                have f141 : slotOf act 141 = i64 0 := (List.cons.inj (hA 10 (by decide))).1
                rw [act_eta act 196 hF.size hF.defers]
                simp only [show List.range 196 = [0, 1, 2, 3, 4, 5, 6, 7, 8, 9, 10, 11, 12, 13, 14, 15, 16, 17, 18, 19, 20, 21, 22, 23, 24, 25, 26, 27, 28, 29, 30, 31, 32, 33, 34, 35, 36, 37, 38, 39, 40, 41, 42, 43, 44, 45, 46, 47, 48, 49, 50, 51, 52, 53, 54, 55, 56, 57, 58, 59, 60, 61, 62, 63, 64, 65, 66, 67, 68, 69, 70, 71, 72, 73, 74, 75, 76, 77, 78, 79, 80, 81, 82, 83, 84, 85, 86, 87, 88, 89, 90, 91, 92, 93, 94, 95, 96, 97, 98, 99, 100, 101, 102, 103, 104, 105, 106, 107, 108, 109, 110, 111, 112, 113, 114, 115, 116, 117, 118, 119, 120, 121, 122, 123, 124, 125, 126, 127, 128, 129, 130, 131, 132, 133, 134, 135, 136, 137, 138, 139, 140, 141, 142, 143, 144, 145, 146, 147, 148, 149, 150, 151, 152, 153, 154, 155, 156, 157, 158, 159, 160, 161, 162, 163, 164, 165, 166, 167, 168, 169, 170, 171, 172, 173, 174, 175, 176, 177, 178, 179, 180, 181, 182, 183, 184, 185, 186, 187, 188, 189, 190, 191, 192, 193, 194, 195] from rfl, List.map_cons, List.map_nil, f2, f4, f5, f6, f7, f9, f11, f12, f13, f14, f15, f131, f132, f133, f134, f135, f136, f137, f139, f140, f141]
                clear hA hF f2 f4 f5 f6 f7 f9 f11 f12 f13 f14 f15 f131 f132 f133 f134 f135 f136 f137 f139 f140 f141
                have hx10 := (hR.block _ (Array.getElem?_eq_some_iff.1 hx9).1).trans hx9
                have hp10 := (hR.block _ (Array.getElem?_eq_some_iff.1 hp9).1).trans hp9
                have hq10 := (hR.block _ (Array.getElem?_eq_some_iff.1 hq9).1).trans hq9
                have hB10 := hB9.below hR
                have hG10 := hG9.below hR
                have ha10 := ha9.trans (hR.mono ha9.size)
                have hgm10l := Nat.lt_of_lt_of_le hgm9l (Below.size hR)
                have hgl10l := Nat.lt_of_lt_of_le hgl9l (Below.size hR)
                have cx10 := (Below.cell hR (p := ⟨gl, j, none⟩) hgl9l).trans cx9
                have cy10 := (Below.cell hR (p := ⟨gm, j, none⟩) hgm9l).trans cy9
                have hxl10 := (Array.getElem?_eq_some_iff.1 hx10).1
                have hpl10 := (Array.getElem?_eq_some_iff.1 hp10).1
                have hql10 := (Array.getElem?_eq_some_iff.1 hq10).1
                have hb10 := hb9.trans (Below.mono hR hb9.size)
                clear hR hx9 hp9 hq9 hB9 hG9 ha9 cx9 cy9 hgl9l hgm9l hxl9 hpl9 hql9 hb9
                go_wp2_with fail
                refine rg_region rdE15s1 pureE15s1 (gE15s1 gm j y so B ta tc sa sc) BR (by kernel_rfl) (by kernel_rfl) (fun n => BR.drawn _ n) BR.refl (fun _ _ _ => BR.trans) ?_ ?_ ?_
                · intro i hi vs wA wB hG hR
                  match i, hi, hG with
                  | 0, _, hG => exact hG
                  | 1, _, hG => exact hG
                  | 2, _, hG => exact hG
                  | 3, _, hG => exact hG
                  | 4, _, hG => exact hG
                  | 5, _, hG => exact hG
                  | 6, _, hG => obtain ⟨v, h1, h2⟩ := hG; exact ⟨v, h1, h2.below hR⟩
                  | 7, _, hG => exact hG
                  | 8, _, hG => exact hG
                  | 9, _, hG => exact hG
                  | 10, _, hG => exact hG
                  | 11, _, hG => exact hG
                  | 12, _, hG => exact hG
                  | _ + 13, _, _ => trivial
                · intro i op ho act wA hR hF hD
                  have sz : act.tmps.size = 196 := hF.size
                  match i, ho, hD with
                  | 0, ho, hD =>
                    cases ho
                    have e2 := slot_tmps (show slotOf act 2 = .pointer (some ⟨w.heap.size, 0, none⟩) from hF.slot 2 (by kernel_rfl))
                    refine rgw_val (wanted_none rfl) (.agg (bookCells B ta tc sa sc)) (by exact ex_load_row (a := act) 30 (.tmp 2) rfl w.heap.size (show slotOf act 2 = .pointer (some ⟨w.heap.size, 0, none⟩) from hF.slot 2 (by kernel_rfl)) 30 _ (0, 0) _ ((Below.block hR _ hxl10).trans hx10) Tryd.underlying30 rfl (by rw [size30]; rfl)) (BR.refl _) ?_
                    exact congrArg (fun v => [v]) (slotOf_same act 143 _ (by omega))
                  | 1, ho, hD =>
                    cases ho
                    have e6 := slot_tmps (show slotOf act 6 = i64 1 from hF.slot 6 (by kernel_rfl))
                    refine rgw_val (wanted_none rfl) (i64 1) (by simp [go_sem, e6]) (BR.refl _) ?_
                    exact congrArg (fun v => [v]) (slotOf_same act 144 _ (by omega))
                  | 2, ho, hD =>
                    cases ho
                    have e12 := slot_tmps (show slotOf act 12 = .slice (some ⟨gm, 0, none⟩) 3 3 from hF.slot 12 (by kernel_rfl))
                    refine rgw_val (wanted_none rfl) (.slice (some ⟨gm, 0, none⟩) 3 3) (by simp [go_sem, e12]) (BR.refl _) ?_
                    exact congrArg (fun v => [v]) (slotOf_same act 145 _ (by omega))
                  | 3, ho, hD =>
                    cases ho
                    have e13 := slot_tmps (show slotOf act 13 = i64 j from hF.slot 13 (by kernel_rfl))
                    refine rgw_val (wanted_none rfl) (i64 j) (by simp [go_sem, e13]) (BR.refl _) ?_
                    exact congrArg (fun v => [v]) (slotOf_same act 146 _ (by omega))
                  | 4, ho, hD =>
                    cases ho
                    have e145 := slot_tmps (List.cons.inj (hD 2 (by decide))).1
                    have e146 := slot_tmps (List.cons.inj (hD 3 (by decide))).1
                    refine rgw_val (wanted_none rfl) (.pointer (some ⟨gm, j, none⟩)) (by simp [go_sem, e145, e146, higm]) (BR.refl _) ?_
                    exact congrArg (fun v => [v]) (slotOf_same act 147 _ (by omega))
                  | 5, ho, hD =>
                    cases ho
                    have e147 := slot_tmps (List.cons.inj (hD 4 (by decide))).1
                    have cyA := (Below.cell hR (p := ⟨gm, j, none⟩) hgm10l).trans cy10
                    refine rgw_val (wanted_none rfl) (i64 y) (by simp [go_sem, e147, cyA]) (BR.refl _) ?_
                    exact congrArg (fun v => [v]) (slotOf_same act 148 _ (by omega))
                  | 6, ho, hD =>
                    cases ho
                    have e143 := slot_tmps (List.cons.inj (hD 0 (by decide))).1
                    have e144 := slot_tmps (List.cons.inj (hD 1 (by decide))).1
                    have e148 := slot_tmps (List.cons.inj (hD 5 (by decide))).1
                    refine rgw_call (wanted_none rfl) 41 #[bookVal B ta tc sa sc, i64 1, i64 y] (by simp [go_sem, e143, e144, e148]) rfl ?_
                    refine (setFl_v (hB10.below hR) 1 y (by decide)).mono ?_
                    rintro e wB ⟨v, rfl, hb, hBv⟩
                    exact ⟨_, rfl, hb, v, congrArg (fun v => [v]) (slotOf_same act 149 _ (by omega)), hBv⟩
                  | 7, ho, hD =>
                    cases ho
                    obtain ⟨v, d149, hBv⟩ := hD 6 (by decide)
                    have e149 := slot_tmps (List.cons.inj d149).1
                    refine rgw_call (wanted_none rfl) 25 #[v] (by simp [go_sem, e149]) rfl ?_
                    refine (right_v (hG10.below hR) hBv).mono ?_
                    rintro e wB ⟨rfl, hb⟩
                    rw [hso]
                    exact ⟨_, rfl, hb, congrArg (fun v => [v]) (slotOf_same act 150 _ (by omega))⟩
                  | 8, ho, hD =>
                    cases ho
                    have e150 := slot_tmps (List.cons.inj (hD 7 (by decide))).1
                    refine rgw_val (wanted_none rfl) (.tuple #[.bool so, i64 0]) (by simp [go_sem, e150]) (BR.refl _) ?_
                    exact congrArg (fun v => [v]) (slotOf_same act 142 _ (by omega))
                  | 9, ho, hD =>
                    cases ho
                    have e142 := slot_tmps (List.cons.inj (hD 8 (by decide))).1
                    refine rgw_val (wanted_none rfl) (.bool so) (by simp [go_sem, e142]) (BR.refl _) ?_
                    exact congrArg (fun v => [v]) (slotOf_same act 151 _ (by omega))
                  | 10, ho, hD =>
                    cases ho
                    have e142 := slot_tmps (List.cons.inj (hD 8 (by decide))).1
                    refine rgw_val (wanted_none rfl) (i64 0) (by simp [go_sem, e142]) (BR.refl _) ?_
                    exact congrArg (fun v => [v]) (slotOf_same act 152 _ (by omega))
                  | 11, ho, hD =>
                    cases ho
                    have e151 := slot_tmps (List.cons.inj (hD 9 (by decide))).1
                    refine rgw_val (wanted_none rfl) (.bool so) (by simp [go_sem, e151]) (BR.refl _) ?_
                    exact congrArg (fun v => [v]) (slotOf_same act 16 _ (by omega))
                  | 12, ho, hD =>
                    cases ho
                    have e152 := slot_tmps (List.cons.inj (hD 10 (by decide))).1
                    refine rgw_val (wanted_none rfl) (i64 0) (by simp [go_sem, e152]) (BR.refl _) ?_
                    exact congrArg (fun v => [v]) (slotOf_same act 17 _ (by omega))
                  | _ + 13, ho, _ => cases ho
                · intro act wA hR hF hA
                  have f2 : slotOf act 2 = .pointer (some ⟨w.heap.size, 0, none⟩) := hF.slot 2 (by kernel_rfl)
                  have f4 : slotOf act 4 = .bool false := hF.slot 4 (by kernel_rfl)
                  have f5 : slotOf act 5 = i64 k := hF.slot 5 (by kernel_rfl)
                  have f6 : slotOf act 6 = i64 1 := hF.slot 6 (by kernel_rfl)
                  have f7 : slotOf act 7 = .pointer (some ⟨p, 0, none⟩) := hF.slot 7 (by kernel_rfl)
                  have f9 : slotOf act 9 = .pointer (some ⟨q, 0, none⟩) := hF.slot 9 (by kernel_rfl)
                  have f11 : slotOf act 11 = .slice (some ⟨gl, 0, none⟩) 3 3 := hF.slot 11 (by kernel_rfl)
                  have f12 : slotOf act 12 = .slice (some ⟨gm, 0, none⟩) 3 3 := hF.slot 12 (by kernel_rfl)
                  have f13 : slotOf act 13 = i64 j := hF.slot 13 (by kernel_rfl)
                  have f14 : slotOf act 14 = .bool is := hF.slot 14 (by kernel_rfl)
                  have f15 : slotOf act 15 = i64 0 := hF.slot 15 (by kernel_rfl)
                  have f16 : slotOf act 16 = .bool so := (List.cons.inj (hA 11 (by decide))).1
                  have f17 : slotOf act 17 = i64 0 := (List.cons.inj (hA 12 (by decide))).1
                  have f142 : slotOf act 142 = .tuple #[.bool so, i64 0] := (List.cons.inj (hA 8 (by decide))).1
                  have f143 : slotOf act 143 = .agg (bookCells B ta tc sa sc) := (List.cons.inj (hA 0 (by decide))).1
                  have f144 : slotOf act 144 = i64 1 := (List.cons.inj (hA 1 (by decide))).1
                  have f145 : slotOf act 145 = .slice (some ⟨gm, 0, none⟩) 3 3 := (List.cons.inj (hA 2 (by decide))).1
                  have f146 : slotOf act 146 = i64 j := (List.cons.inj (hA 3 (by decide))).1
                  have f147 : slotOf act 147 = .pointer (some ⟨gm, j, none⟩) := (List.cons.inj (hA 4 (by decide))).1
                  have f148 : slotOf act 148 = i64 y := (List.cons.inj (hA 5 (by decide))).1
                  have f150 : slotOf act 150 = .tuple #[.bool so, i64 0] := (List.cons.inj (hA 7 (by decide))).1
                  have f151 : slotOf act 151 = .bool so := (List.cons.inj (hA 9 (by decide))).1
                  have f152 : slotOf act 152 = i64 0 := (List.cons.inj (hA 10 (by decide))).1
                  rw [act_eta act 196 hF.size hF.defers]
                  simp only [show List.range 196 = [0, 1, 2, 3, 4, 5, 6, 7, 8, 9, 10, 11, 12, 13, 14, 15, 16, 17, 18, 19, 20, 21, 22, 23, 24, 25, 26, 27, 28, 29, 30, 31, 32, 33, 34, 35, 36, 37, 38, 39, 40, 41, 42, 43, 44, 45, 46, 47, 48, 49, 50, 51, 52, 53, 54, 55, 56, 57, 58, 59, 60, 61, 62, 63, 64, 65, 66, 67, 68, 69, 70, 71, 72, 73, 74, 75, 76, 77, 78, 79, 80, 81, 82, 83, 84, 85, 86, 87, 88, 89, 90, 91, 92, 93, 94, 95, 96, 97, 98, 99, 100, 101, 102, 103, 104, 105, 106, 107, 108, 109, 110, 111, 112, 113, 114, 115, 116, 117, 118, 119, 120, 121, 122, 123, 124, 125, 126, 127, 128, 129, 130, 131, 132, 133, 134, 135, 136, 137, 138, 139, 140, 141, 142, 143, 144, 145, 146, 147, 148, 149, 150, 151, 152, 153, 154, 155, 156, 157, 158, 159, 160, 161, 162, 163, 164, 165, 166, 167, 168, 169, 170, 171, 172, 173, 174, 175, 176, 177, 178, 179, 180, 181, 182, 183, 184, 185, 186, 187, 188, 189, 190, 191, 192, 193, 194, 195] from rfl, List.map_cons, List.map_nil, f2, f4, f5, f6, f7, f9, f11, f12, f13, f14, f15, f16, f17, f142, f143, f144, f145, f146, f147, f148, f150, f151, f152]
                  clear hA hF f2 f4 f5 f6 f7 f9 f11 f12 f13 f14 f15 f16 f17 f142 f143 f144 f145 f146 f147 f148 f150 f151 f152
                  have hx11 := (hR.block _ (Array.getElem?_eq_some_iff.1 hx10).1).trans hx10
                  have hp11 := (hR.block _ (Array.getElem?_eq_some_iff.1 hp10).1).trans hp10
                  have hq11 := (hR.block _ (Array.getElem?_eq_some_iff.1 hq10).1).trans hq10
                  have hB11 := hB10.below hR
                  have hG11 := hG10.below hR
                  have ha11 := ha10.trans (hR.mono ha10.size)
                  have hgm11l := Nat.lt_of_lt_of_le hgm10l (Below.size hR)
                  have hgl11l := Nat.lt_of_lt_of_le hgl10l (Below.size hR)
                  have cx11 := (Below.cell hR (p := ⟨gl, j, none⟩) hgl10l).trans cx10
                  have cy11 := (Below.cell hR (p := ⟨gm, j, none⟩) hgm10l).trans cy10
                  have hxl11 := (Array.getElem?_eq_some_iff.1 hx11).1
                  have hpl11 := (Array.getElem?_eq_some_iff.1 hp11).1
                  have hql11 := (Array.getElem?_eq_some_iff.1 hq11).1
                  have hb11 := hb10.trans (Below.mono hR hb10.size)
                  clear hR hx10 hp10 hq10 hB10 hG10 ha10 cx10 cy10 hgl10l hgm10l hxl10 hpl10 hql10 hb10
                  by_cases hj2 : j < 2
                  · obtain rfl := hisj hj2
                    obtain rfl := hsoj hj2
                    have hlt2 : decide ((j : Int) < 2) = true := by simp; omega
                    have hIx : inB x a b = true := inB_true (his3 rfl).1 (his3 rfl).2
                    have hIy : inB y u v = true := inB_true (hso3 rfl).1 (hso3 rfl).2
                    go_wp2_with fail
                    refine rg_region rdE16s1LIS pureE16s1LIS (gE16s1LIS gl gm j a b u v x y) BR (by kernel_rfl) (by kernel_rfl) (fun n => BR.drawn _ n) BR.refl (fun _ _ _ => BR.trans) ?_ ?_ ?_
                    · intro i hi vs wA wB hG hR
                      match i, hi, hG with
                      | 0, _, hG => exact hG
                      | 1, _, hG => exact hG
                      | 2, _, hG => exact hG
                      | 3, _, hG => exact hG
                      | 4, _, hG => exact hG
                      | 5, _, hG => exact hG
                      | 6, _, hG => exact hG
                      | 7, _, hG => exact hG
                      | 8, _, hG => exact hG
                      | 9, _, hG => exact hG
                      | 10, _, hG => exact hG
                      | 11, _, hG => exact hG
                      | 12, _, hG => exact hG
                      | 13, _, hG => exact hG
                      | 14, _, hG => exact hG
                      | 15, _, hG => exact hG
                      | 16, _, hG => exact hG
                      | 17, _, hG => exact hG
                      | 18, _, hG => exact hG
                      | 19, _, hG => exact hG
                      | 20, _, hG => exact hG
                      | 21, _, hG => exact hG
                      | 22, _, hG => exact hG
                      | 23, _, hG => exact hG
                      | 24, _, hG => exact hG
                      | 25, _, hG => exact hG
                      | 26, _, hG => exact hG
                      | 27, _, hG => exact hG
                      | 28, _, hG => exact hG
                      | 29, _, hG => exact hG
                      | 30, _, hG => exact hG
                      | 31, _, hG => exact hG
                      | 32, _, hG => exact hG
                      | 33, _, hG => exact hG
                      | 34, _, hG => exact hG
                      | 35, _, hG => exact hG
                      | 36, _, hG => exact hG
                      | 37, _, hG => exact hG
                      | 38, _, hG => exact hG
                      | 39, _, hG => exact hG
                      | 40, _, hG => exact hG
                      | 41, _, hG => exact hG
                      | _ + 42, _, _ => trivial
                    · intro i op ho act wA hR hF hD
                      have sz : act.tmps.size = 196 := hF.size
                      match i, ho, hD with
                      | 0, ho, hD =>
                        cases ho
                        have e15 := slot_tmps (show slotOf act 15 = i64 0 from hF.slot 15 (by kernel_rfl))
                        refine rgw_val (wanted_none rfl) (i64 0) (by simp [go_sem, e15]) (BR.refl _) ?_
                        exact congrArg (fun v => [v]) (slotOf_same act 153 _ (by omega))
                      | 1, ho, hD =>
                        cases ho
                        have e153 := slot_tmps (List.cons.inj (hD 0 (by decide))).1
                        refine rgw_val (wanted_none rfl) (.bool false) (by simp [go_sem, e153]) (BR.refl _) ?_
                        exact congrArg (fun v => [v]) (slotOf_same act 154 _ (by omega))
                      | 2, ho, hD =>
                        cases ho
                        have e154 := slot_tmps (List.cons.inj (hD 1 (by decide))).1
                        refine rgw_val (wanted_none rfl) (.bool false) (by simp [go_sem, e154]) (BR.refl _) ?_
                        exact congrArg (fun v => [v]) (slotOf_same act 155 _ (by omega))
                      | 3, ho, hD =>
                        cases ho
                        have dj : slotOf act 155 = .bool false := (List.cons.inj (hD 2 (by decide))).1
                        have e17 := slot_tmps (show slotOf act 17 = i64 0 from hF.slot 17 (by kernel_rfl))
                        refine rgw_val (by rw [wanted_of (d := 155) rfl rfl dj]; rfl) (i64 0) (by simp [go_sem, e17]) (BR.refl _) ?_
                        exact congrArg (fun v => [v]) (slotOf_same act 156 _ (by omega))
                      | 4, ho, hD =>
                        cases ho
                        have dj : slotOf act 155 = .bool false := (List.cons.inj (hD 2 (by decide))).1
                        have e156 := slot_tmps (List.cons.inj (hD 3 (by decide))).1
                        refine rgw_val (by rw [wanted_of (d := 155) rfl rfl dj]; rfl) (.bool false) (by simp [go_sem, e156]) (BR.refl _) ?_
                        exact congrArg (fun v => [v]) (slotOf_same act 157 _ (by omega))
                      | 5, ho, hD =>
                        cases ho
                        have e155 := slot_tmps (List.cons.inj (hD 2 (by decide))).1
                        have e157 := slot_tmps (List.cons.inj (hD 4 (by decide))).1
                        refine rgw_val (wanted_none rfl) (.bool false) (by simp [go_sem, e155, e157]) (BR.refl _) ?_
                        exact congrArg (fun v => [v]) (slotOf_same act 158 _ (by omega))
                      | 6, ho, hD =>
                        cases ho
                        have e158 := slot_tmps (List.cons.inj (hD 5 (by decide))).1
                        refine rgw_val (wanted_none rfl) (.bool false) (by simp [go_sem, e158]) (BR.refl _) ?_
                        exact congrArg (fun v => [v]) (slotOf_same act 159 _ (by omega))
                      | 7, ho, hD =>
                        cases ho
                        have dj : slotOf act 159 = .bool false := (List.cons.inj (hD 6 (by decide))).1
                        have e13 := slot_tmps (show slotOf act 13 = i64 j from hF.slot 13 (by kernel_rfl))
                        refine rgw_val (by rw [wanted_of (d := 159) rfl rfl dj]; rfl) (i64 j) (by simp [go_sem, e13]) (BR.refl _) ?_
                        exact congrArg (fun v => [v]) (slotOf_same act 160 _ (by omega))
                      | 8, ho, hD =>
                        cases ho
                        have dj : slotOf act 159 = .bool false := (List.cons.inj (hD 6 (by decide))).1
                        have e160 := slot_tmps (List.cons.inj (hD 7 (by decide))).1
                        refine rgw_val (by rw [wanted_of (d := 159) rfl rfl dj]; rfl) (.bool true) (by simp [go_sem, e160, hlt2]) (BR.refl _) ?_
                        exact congrArg (fun v => [v]) (slotOf_same act 161 _ (by omega))
                      | 9, ho, hD =>
                        cases ho
                        have dj : slotOf act 159 = .bool false := (List.cons.inj (hD 6 (by decide))).1
                        have e161 := slot_tmps (List.cons.inj (hD 8 (by decide))).1
                        refine rgw_val (by rw [wanted_of (d := 159) rfl rfl dj]; rfl) (.bool true) (by simp [go_sem, e161]) (BR.refl _) ?_
                        exact congrArg (fun v => [v]) (slotOf_same act 162 _ (by omega))
                      | 10, ho, hD =>
                        cases ho
                        have dj : slotOf act 162 = .bool true := (List.cons.inj (hD 9 (by decide))).1
                        have e14 := slot_tmps (show slotOf act 14 = .bool true from hF.slot 14 (by kernel_rfl))
                        refine rgw_val (by rw [wanted_of (d := 162) rfl rfl dj]; rfl) (.bool true) (by simp [go_sem, e14]) (BR.refl _) ?_
                        exact congrArg (fun v => [v]) (slotOf_same act 163 _ (by omega))
                      | 11, ho, hD =>
                        cases ho
                        have dj : slotOf act 162 = .bool true := (List.cons.inj (hD 9 (by decide))).1
                        have e163 := slot_tmps (List.cons.inj (hD 10 (by decide))).1
                        refine rgw_val (by rw [wanted_of (d := 162) rfl rfl dj]; rfl) (.bool false) (by simp [go_sem, e163]) (BR.refl _) ?_
                        exact congrArg (fun v => [v]) (slotOf_same act 164 _ (by omega))
                      | 12, ho, hD =>
                        cases ho
                        have dj : slotOf act 162 = .bool true := (List.cons.inj (hD 9 (by decide))).1
                        have e164 := slot_tmps (List.cons.inj (hD 11 (by decide))).1
                        refine rgw_val (by rw [wanted_of (d := 162) rfl rfl dj]; rfl) (.bool false) (by simp [go_sem, e164]) (BR.refl _) ?_
                        exact congrArg (fun v => [v]) (slotOf_same act 165 _ (by omega))
                      | 13, ho, hD =>
                        cases ho
                        have dj : slotOf act 165 = .bool false := (List.cons.inj (hD 12 (by decide))).1
                        have e16 := slot_tmps (show slotOf act 16 = .bool true from hF.slot 16 (by kernel_rfl))
                        refine rgw_val (by rw [wanted_of (d := 165) rfl rfl dj]; rfl) (.bool true) (by simp [go_sem, e16]) (BR.refl _) ?_
                        exact congrArg (fun v => [v]) (slotOf_same act 166 _ (by omega))
                      | 14, ho, hD =>
                        cases ho
                        have dj : slotOf act 165 = .bool false := (List.cons.inj (hD 12 (by decide))).1
                        have e166 := slot_tmps (List.cons.inj (hD 13 (by decide))).1
                        refine rgw_val (by rw [wanted_of (d := 165) rfl rfl dj]; rfl) (.bool false) (by simp [go_sem, e166]) (BR.refl _) ?_
                        exact congrArg (fun v => [v]) (slotOf_same act 167 _ (by omega))
                      | 15, ho, hD =>
                        cases ho
                        have dj : slotOf act 162 = .bool true := (List.cons.inj (hD 9 (by decide))).1
                        have e165 := slot_tmps (List.cons.inj (hD 12 (by decide))).1
                        have e167 := slot_tmps (List.cons.inj (hD 14 (by decide))).1
                        refine rgw_val (by rw [wanted_of (d := 162) rfl rfl dj]; rfl) (.bool false) (by simp [go_sem, e165, e167]) (BR.refl _) ?_
                        exact congrArg (fun v => [v]) (slotOf_same act 168 _ (by omega))
                      | 16, ho, hD =>
                        cases ho
                        have dj : slotOf act 159 = .bool false := (List.cons.inj (hD 6 (by decide))).1
                        have e162 := slot_tmps (List.cons.inj (hD 9 (by decide))).1
                        have e168 := slot_tmps (List.cons.inj (hD 15 (by decide))).1
                        refine rgw_val (by rw [wanted_of (d := 159) rfl rfl dj]; rfl) (.bool false) (by simp [go_sem, e162, e168]) (BR.refl _) ?_
                        exact congrArg (fun v => [v]) (slotOf_same act 169 _ (by omega))
                      | 17, ho, hD =>
                        cases ho
                        have e159 := slot_tmps (List.cons.inj (hD 6 (by decide))).1
                        have e169 := slot_tmps (List.cons.inj (hD 16 (by decide))).1
                        refine rgw_val (wanted_none rfl) (.bool false) (by simp [go_sem, e159, e169]) (BR.refl _) ?_
                        exact congrArg (fun v => [v]) (slotOf_same act 170 _ (by omega))
                      | 18, ho, hD =>
                        cases ho
                        have e170 := slot_tmps (List.cons.inj (hD 17 (by decide))).1
                        refine rgw_val (wanted_none rfl) (.bool false) (by simp [go_sem, e170]) (BR.refl _) ?_
                        exact congrArg (fun v => [v]) (slotOf_same act 171 _ (by omega))
                      | 19, ho, hD =>
                        cases ho
                        have dj : slotOf act 171 = .bool false := (List.cons.inj (hD 18 (by decide))).1
                        have e14 := slot_tmps (show slotOf act 14 = .bool true from hF.slot 14 (by kernel_rfl))
                        refine rgw_val (by rw [wanted_of (d := 171) rfl rfl dj]; rfl) (.bool true) (by simp [go_sem, e14]) (BR.refl _) ?_
                        exact congrArg (fun v => [v]) (slotOf_same act 172 _ (by omega))
                      | 20, ho, hD =>
                        cases ho
                        have dj : slotOf act 171 = .bool false := (List.cons.inj (hD 18 (by decide))).1
                        have e172 := slot_tmps (List.cons.inj (hD 19 (by decide))).1
                        refine rgw_val (by rw [wanted_of (d := 171) rfl rfl dj]; rfl) (.bool true) (by simp [go_sem, e172]) (BR.refl _) ?_
                        exact congrArg (fun v => [v]) (slotOf_same act 173 _ (by omega))
                      | 21, ho, hD =>
                        cases ho
                        have dj : slotOf act 173 = .bool true := (List.cons.inj (hD 20 (by decide))).1
                        have e7 := slot_tmps (show slotOf act 7 = .pointer (some ⟨p, 0, none⟩) from hF.slot 7 (by kernel_rfl))
                        have hpA := (Below.block hR _ hpl11).trans hp11
                        have hpc := cells_of hpA
                        refine rgw_val (by rw [wanted_of (d := 173) rfl rfl dj]; rfl) (.agg #[i64 a, i64 b]) (by simp [go_sem, e7, hpc]) (BR.refl _) ?_
                        exact congrArg (fun v => [v]) (slotOf_same act 174 _ (by omega))
                      | 22, ho, hD =>
                        cases ho
                        have dj : slotOf act 173 = .bool true := (List.cons.inj (hD 20 (by decide))).1
                        have e11 := slot_tmps (show slotOf act 11 = .slice (some ⟨gl, 0, none⟩) 3 3 from hF.slot 11 (by kernel_rfl))
                        refine rgw_val (by rw [wanted_of (d := 173) rfl rfl dj]; rfl) (.slice (some ⟨gl, 0, none⟩) 3 3) (by simp [go_sem, e11]) (BR.refl _) ?_
                        exact congrArg (fun v => [v]) (slotOf_same act 175 _ (by omega))
                      | 23, ho, hD =>
                        cases ho
                        have dj : slotOf act 173 = .bool true := (List.cons.inj (hD 20 (by decide))).1
                        have e13 := slot_tmps (show slotOf act 13 = i64 j from hF.slot 13 (by kernel_rfl))
                        refine rgw_val (by rw [wanted_of (d := 173) rfl rfl dj]; rfl) (i64 j) (by simp [go_sem, e13]) (BR.refl _) ?_
                        exact congrArg (fun v => [v]) (slotOf_same act 176 _ (by omega))
                      | 24, ho, hD =>
                        cases ho
                        have dj : slotOf act 173 = .bool true := (List.cons.inj (hD 20 (by decide))).1
                        have e175 := slot_tmps (List.cons.inj (hD 22 (by decide))).1
                        have e176 := slot_tmps (List.cons.inj (hD 23 (by decide))).1
                        refine rgw_val (by rw [wanted_of (d := 173) rfl rfl dj]; rfl) (.pointer (some ⟨gl, j, none⟩)) (by simp [go_sem, e175, e176, higl]) (BR.refl _) ?_
                        exact congrArg (fun v => [v]) (slotOf_same act 177 _ (by omega))
                      | 25, ho, hD =>
                        cases ho
                        have dj : slotOf act 173 = .bool true := (List.cons.inj (hD 20 (by decide))).1
                        have e177 := slot_tmps (List.cons.inj (hD 24 (by decide))).1
                        have cxA := (Below.cell hR (p := ⟨gl, j, none⟩) hgl11l).trans cx11
                        refine rgw_val (by rw [wanted_of (d := 173) rfl rfl dj]; rfl) (i64 x) (by simp [go_sem, e177, cxA]) (BR.refl _) ?_
                        exact congrArg (fun v => [v]) (slotOf_same act 178 _ (by omega))
                      | 26, ho, hD =>
                        cases ho
                        have dj : slotOf act 173 = .bool true := (List.cons.inj (hD 20 (by decide))).1
                        have e174 := slot_tmps (List.cons.inj (hD 21 (by decide))).1
                        have e178 := slot_tmps (List.cons.inj (hD 25 (by decide))).1
                        refine rgw_call (by rw [wanted_of (d := 173) rfl rfl dj]; rfl) 30 #[.agg #[i64 a, i64 b], i64 x] (by simp [go_sem, e174, e178]) rfl ?_
                        refine (contains24_any _ _ _ _).mono ?_
                        rintro e wB ⟨rfl, hb⟩
                        rw [hIx]
                        exact ⟨_, rfl, hb, congrArg (fun v => [v]) (slotOf_same act 179 _ (by omega))⟩
                      | 27, ho, hD =>
                        cases ho
                        have dj : slotOf act 173 = .bool true := (List.cons.inj (hD 20 (by decide))).1
                        have e179 := slot_tmps (List.cons.inj (hD 26 (by decide))).1
                        refine rgw_val (by rw [wanted_of (d := 173) rfl rfl dj]; rfl) (.bool false) (by simp [go_sem, e179]) (BR.refl _) ?_
                        exact congrArg (fun v => [v]) (slotOf_same act 180 _ (by omega))
                      | 28, ho, hD =>
                        cases ho
                        have dj : slotOf act 171 = .bool false := (List.cons.inj (hD 18 (by decide))).1
                        have e173 := slot_tmps (List.cons.inj (hD 20 (by decide))).1
                        have e180 := slot_tmps (List.cons.inj (hD 27 (by decide))).1
                        refine rgw_val (by rw [wanted_of (d := 171) rfl rfl dj]; rfl) (.bool false) (by simp [go_sem, e173, e180]) (BR.refl _) ?_
                        exact congrArg (fun v => [v]) (slotOf_same act 181 _ (by omega))
                      | 29, ho, hD =>
                        cases ho
                        have e171 := slot_tmps (List.cons.inj (hD 18 (by decide))).1
                        have e181 := slot_tmps (List.cons.inj (hD 28 (by decide))).1
                        refine rgw_val (wanted_none rfl) (.bool false) (by simp [go_sem, e171, e181]) (BR.refl _) ?_
                        exact congrArg (fun v => [v]) (slotOf_same act 182 _ (by omega))
                      | 30, ho, hD =>
                        cases ho
                        have e182 := slot_tmps (List.cons.inj (hD 29 (by decide))).1
                        refine rgw_val (wanted_none rfl) (.bool false) (by simp [go_sem, e182]) (BR.refl _) ?_
                        exact congrArg (fun v => [v]) (slotOf_same act 183 _ (by omega))
                      | 31, ho, hD =>
                        cases ho
                        have dj : slotOf act 183 = .bool false := (List.cons.inj (hD 30 (by decide))).1
                        have e16 := slot_tmps (show slotOf act 16 = .bool true from hF.slot 16 (by kernel_rfl))
                        refine rgw_val (by rw [wanted_of (d := 183) rfl rfl dj]; rfl) (.bool true) (by simp [go_sem, e16]) (BR.refl _) ?_
                        exact congrArg (fun v => [v]) (slotOf_same act 184 _ (by omega))
                      | 32, ho, hD =>
                        cases ho
                        have dj : slotOf act 183 = .bool false := (List.cons.inj (hD 30 (by decide))).1
                        have e184 := slot_tmps (List.cons.inj (hD 31 (by decide))).1
                        refine rgw_val (by rw [wanted_of (d := 183) rfl rfl dj]; rfl) (.bool true) (by simp [go_sem, e184]) (BR.refl _) ?_
                        exact congrArg (fun v => [v]) (slotOf_same act 185 _ (by omega))
                      | 33, ho, hD =>
                        cases ho
                        have dj : slotOf act 185 = .bool true := (List.cons.inj (hD 32 (by decide))).1
                        have e9 := slot_tmps (show slotOf act 9 = .pointer (some ⟨q, 0, none⟩) from hF.slot 9 (by kernel_rfl))
                        have hqA := (Below.block hR _ hql11).trans hq11
                        have hqc := cells_of hqA
                        refine rgw_val (by rw [wanted_of (d := 185) rfl rfl dj]; rfl) (.agg #[i64 u, i64 v]) (by simp [go_sem, e9, hqc]) (BR.refl _) ?_
                        exact congrArg (fun v => [v]) (slotOf_same act 186 _ (by omega))
                      | 34, ho, hD =>
                        cases ho
                        have dj : slotOf act 185 = .bool true := (List.cons.inj (hD 32 (by decide))).1
                        have e12 := slot_tmps (show slotOf act 12 = .slice (some ⟨gm, 0, none⟩) 3 3 from hF.slot 12 (by kernel_rfl))
                        refine rgw_val (by rw [wanted_of (d := 185) rfl rfl dj]; rfl) (.slice (some ⟨gm, 0, none⟩) 3 3) (by simp [go_sem, e12]) (BR.refl _) ?_
                        exact congrArg (fun v => [v]) (slotOf_same act 187 _ (by omega))
                      | 35, ho, hD =>
                        cases ho
                        have dj : slotOf act 185 = .bool true := (List.cons.inj (hD 32 (by decide))).1
                        have e13 := slot_tmps (show slotOf act 13 = i64 j from hF.slot 13 (by kernel_rfl))
                        refine rgw_val (by rw [wanted_of (d := 185) rfl rfl dj]; rfl) (i64 j) (by simp [go_sem, e13]) (BR.refl _) ?_
                        exact congrArg (fun v => [v]) (slotOf_same act 188 _ (by omega))
                      | 36, ho, hD =>
                        cases ho
                        have dj : slotOf act 185 = .bool true := (List.cons.inj (hD 32 (by decide))).1
                        have e187 := slot_tmps (List.cons.inj (hD 34 (by decide))).1
                        have e188 := slot_tmps (List.cons.inj (hD 35 (by decide))).1
                        refine rgw_val (by rw [wanted_of (d := 185) rfl rfl dj]; rfl) (.pointer (some ⟨gm, j, none⟩)) (by simp [go_sem, e187, e188, higm]) (BR.refl _) ?_
                        exact congrArg (fun v => [v]) (slotOf_same act 189 _ (by omega))
                      | 37, ho, hD =>
                        cases ho
                        have dj : slotOf act 185 = .bool true := (List.cons.inj (hD 32 (by decide))).1
                        have e189 := slot_tmps (List.cons.inj (hD 36 (by decide))).1
                        have cyA := (Below.cell hR (p := ⟨gm, j, none⟩) hgm11l).trans cy11
                        refine rgw_val (by rw [wanted_of (d := 185) rfl rfl dj]; rfl) (i64 y) (by simp [go_sem, e189, cyA]) (BR.refl _) ?_
                        exact congrArg (fun v => [v]) (slotOf_same act 190 _ (by omega))
                      | 38, ho, hD =>
                        cases ho
                        have dj : slotOf act 185 = .bool true := (List.cons.inj (hD 32 (by decide))).1
                        have e186 := slot_tmps (List.cons.inj (hD 33 (by decide))).1
                        have e190 := slot_tmps (List.cons.inj (hD 37 (by decide))).1
                        refine rgw_call (by rw [wanted_of (d := 185) rfl rfl dj]; rfl) 30 #[.agg #[i64 u, i64 v], i64 y] (by simp [go_sem, e186, e190]) rfl ?_
                        refine (contains24_any _ _ _ _).mono ?_
                        rintro e wB ⟨rfl, hb⟩
                        rw [hIy]
                        exact ⟨_, rfl, hb, congrArg (fun v => [v]) (slotOf_same act 191 _ (by omega))⟩
                      | 39, ho, hD =>
                        cases ho
                        have dj : slotOf act 185 = .bool true := (List.cons.inj (hD 32 (by decide))).1
                        have e191 := slot_tmps (List.cons.inj (hD 38 (by decide))).1
                        refine rgw_val (by rw [wanted_of (d := 185) rfl rfl dj]; rfl) (.bool false) (by simp [go_sem, e191]) (BR.refl _) ?_
                        exact congrArg (fun v => [v]) (slotOf_same act 192 _ (by omega))
                      | 40, ho, hD =>
                        cases ho
                        have dj : slotOf act 183 = .bool false := (List.cons.inj (hD 30 (by decide))).1
                        have e185 := slot_tmps (List.cons.inj (hD 32 (by decide))).1
                        have e192 := slot_tmps (List.cons.inj (hD 39 (by decide))).1
                        refine rgw_val (by rw [wanted_of (d := 183) rfl rfl dj]; rfl) (.bool false) (by simp [go_sem, e185, e192]) (BR.refl _) ?_
                        exact congrArg (fun v => [v]) (slotOf_same act 193 _ (by omega))
                      | 41, ho, hD =>
                        cases ho
                        have e183 := slot_tmps (List.cons.inj (hD 30 (by decide))).1
                        have e193 := slot_tmps (List.cons.inj (hD 40 (by decide))).1
                        refine rgw_val (wanted_none rfl) (.bool false) (by simp [go_sem, e183, e193]) (BR.refl _) ?_
                        exact congrArg (fun v => [v]) (slotOf_same act 194 _ (by omega))
                      | _ + 42, ho, _ => cases ho
                    · intro act wA hR hF hA
                      have f2 : slotOf act 2 = .pointer (some ⟨w.heap.size, 0, none⟩) := hF.slot 2 (by kernel_rfl)
                      have f4 : slotOf act 4 = .bool false := hF.slot 4 (by kernel_rfl)
                      have f5 : slotOf act 5 = i64 k := hF.slot 5 (by kernel_rfl)
                      have f6 : slotOf act 6 = i64 1 := hF.slot 6 (by kernel_rfl)
                      have f7 : slotOf act 7 = .pointer (some ⟨p, 0, none⟩) := hF.slot 7 (by kernel_rfl)
                      have f9 : slotOf act 9 = .pointer (some ⟨q, 0, none⟩) := hF.slot 9 (by kernel_rfl)
                      have f11 : slotOf act 11 = .slice (some ⟨gl, 0, none⟩) 3 3 := hF.slot 11 (by kernel_rfl)
                      have f12 : slotOf act 12 = .slice (some ⟨gm, 0, none⟩) 3 3 := hF.slot 12 (by kernel_rfl)
                      have f13 : slotOf act 13 = i64 j := hF.slot 13 (by kernel_rfl)
                      have f14 : slotOf act 14 = .bool true := hF.slot 14 (by kernel_rfl)
                      have f15 : slotOf act 15 = i64 0 := hF.slot 15 (by kernel_rfl)
                      have f16 : slotOf act 16 = .bool true := hF.slot 16 (by kernel_rfl)
                      have f17 : slotOf act 17 = i64 0 := hF.slot 17 (by kernel_rfl)
                      have f153 : slotOf act 153 = i64 0 := (List.cons.inj (hA 0 (by decide))).1
                      have f154 : slotOf act 154 = .bool false := (List.cons.inj (hA 1 (by decide))).1
                      have f155 : slotOf act 155 = .bool false := (List.cons.inj (hA 2 (by decide))).1
                      have f156 : slotOf act 156 = i64 0 := (List.cons.inj (hA 3 (by decide))).1
                      have f157 : slotOf act 157 = .bool false := (List.cons.inj (hA 4 (by decide))).1
                      have f158 : slotOf act 158 = .bool false := (List.cons.inj (hA 5 (by decide))).1
                      have f159 : slotOf act 159 = .bool false := (List.cons.inj (hA 6 (by decide))).1
                      have f160 : slotOf act 160 = i64 j := (List.cons.inj (hA 7 (by decide))).1
                      have f161 : slotOf act 161 = .bool true := (List.cons.inj (hA 8 (by decide))).1
                      have f162 : slotOf act 162 = .bool true := (List.cons.inj (hA 9 (by decide))).1
                      have f163 : slotOf act 163 = .bool true := (List.cons.inj (hA 10 (by decide))).1
                      have f164 : slotOf act 164 = .bool false := (List.cons.inj (hA 11 (by decide))).1
                      have f165 : slotOf act 165 = .bool false := (List.cons.inj (hA 12 (by decide))).1
                      have f166 : slotOf act 166 = .bool true := (List.cons.inj (hA 13 (by decide))).1
                      have f167 : slotOf act 167 = .bool false := (List.cons.inj (hA 14 (by decide))).1
                      have f168 : slotOf act 168 = .bool false := (List.cons.inj (hA 15 (by decide))).1
                      have f169 : slotOf act 169 = .bool false := (List.cons.inj (hA 16 (by decide))).1
                      have f170 : slotOf act 170 = .bool false := (List.cons.inj (hA 17 (by decide))).1
                      have f171 : slotOf act 171 = .bool false := (List.cons.inj (hA 18 (by decide))).1
                      have f172 : slotOf act 172 = .bool true := (List.cons.inj (hA 19 (by decide))).1
                      have f173 : slotOf act 173 = .bool true := (List.cons.inj (hA 20 (by decide))).1
                      have f174 : slotOf act 174 = .agg #[i64 a, i64 b] := (List.cons.inj (hA 21 (by decide))).1
                      have f175 : slotOf act 175 = .slice (some ⟨gl, 0, none⟩) 3 3 := (List.cons.inj (hA 22 (by decide))).1
                      have f176 : slotOf act 176 = i64 j := (List.cons.inj (hA 23 (by decide))).1
                      have f177 : slotOf act 177 = .pointer (some ⟨gl, j, none⟩) := (List.cons.inj (hA 24 (by decide))).1
                      have f178 : slotOf act 178 = i64 x := (List.cons.inj (hA 25 (by decide))).1
                      have f179 : slotOf act 179 = .bool true := (List.cons.inj (hA 26 (by decide))).1
                      have f180 : slotOf act 180 = .bool false := (List.cons.inj (hA 27 (by decide))).1
                      have f181 : slotOf act 181 = .bool false := (List.cons.inj (hA 28 (by decide))).1
                      have f182 : slotOf act 182 = .bool false := (List.cons.inj (hA 29 (by decide))).1
                      have f183 : slotOf act 183 = .bool false := (List.cons.inj (hA 30 (by decide))).1
                      have f184 : slotOf act 184 = .bool true := (List.cons.inj (hA 31 (by decide))).1
                      have f185 : slotOf act 185 = .bool true := (List.cons.inj (hA 32 (by decide))).1
                      have f186 : slotOf act 186 = .agg #[i64 u, i64 v] := (List.cons.inj (hA 33 (by decide))).1
                      have f187 : slotOf act 187 = .slice (some ⟨gm, 0, none⟩) 3 3 := (List.cons.inj (hA 34 (by decide))).1
                      have f188 : slotOf act 188 = i64 j := (List.cons.inj (hA 35 (by decide))).1
                      have f189 : slotOf act 189 = .pointer (some ⟨gm, j, none⟩) := (List.cons.inj (hA 36 (by decide))).1
                      have f190 : slotOf act 190 = i64 y := (List.cons.inj (hA 37 (by decide))).1
                      have f191 : slotOf act 191 = .bool true := (List.cons.inj (hA 38 (by decide))).1
                      have f192 : slotOf act 192 = .bool false := (List.cons.inj (hA 39 (by decide))).1
                      have f193 : slotOf act 193 = .bool false := (List.cons.inj (hA 40 (by decide))).1
                      have f194 : slotOf act 194 = .bool false := (List.cons.inj (hA 41 (by decide))).1
                      rw [act_eta act 196 hF.size hF.defers]
                      simp only [show List.range 196 = [0, 1, 2, 3, 4, 5, 6, 7, 8, 9, 10, 11, 12, 13, 14, 15, 16, 17, 18, 19, 20, 21, 22, 23, 24, 25, 26, 27, 28, 29, 30, 31, 32, 33, 34, 35, 36, 37, 38, 39, 40, 41, 42, 43, 44, 45, 46, 47, 48, 49, 50, 51, 52, 53, 54, 55, 56, 57, 58, 59, 60, 61, 62, 63, 64, 65, 66, 67, 68, 69, 70, 71, 72, 73, 74, 75, 76, 77, 78, 79, 80, 81, 82, 83, 84, 85, 86, 87, 88, 89, 90, 91, 92, 93, 94, 95, 96, 97, 98, 99, 100, 101, 102, 103, 104, 105, 106, 107, 108, 109, 110, 111, 112, 113, 114, 115, 116, 117, 118, 119, 120, 121, 122, 123, 124, 125, 126, 127, 128, 129, 130, 131, 132, 133, 134, 135, 136, 137, 138, 139, 140, 141, 142, 143, 144, 145, 146, 147, 148, 149, 150, 151, 152, 153, 154, 155, 156, 157, 158, 159, 160, 161, 162, 163, 164, 165, 166, 167, 168, 169, 170, 171, 172, 173, 174, 175, 176, 177, 178, 179, 180, 181, 182, 183, 184, 185, 186, 187, 188, 189, 190, 191, 192, 193, 194, 195] from rfl, List.map_cons, List.map_nil, f2, f4, f5, f6, f7, f9, f11, f12, f13, f14, f15, f16, f17, f153, f154, f155, f156, f157, f158, f159, f160, f161, f162, f163, f164, f165, f166, f167, f168, f169, f170, f171, f172, f173, f174, f175, f176, f177, f178, f179, f180, f181, f182, f183, f184, f185, f186, f187, f188, f189, f190, f191, f192, f193, f194]
                      clear hA hF f2 f4 f5 f6 f7 f9 f11 f12 f13 f14 f15 f16 f17 f153 f154 f155 f156 f157 f158 f159 f160 f161 f162 f163 f164 f165 f166 f167 f168 f169 f170 f171 f172 f173 f174 f175 f176 f177 f178 f179 f180 f181 f182 f183 f184 f185 f186 f187 f188 f189 f190 f191 f192 f193 f194
                      have hb12 := hb11.trans (Below.mono hR hb11.size)
                      clear hR
                      go_wp2_with fail
                      refine ⟨⟨j + 1, by omega, rfl, rfl, rfl, rfl, rfl, rfl, rfl, rfl, rfl, rfl, congrArg (Value.int .i64) (Int.natCast_succ j).symm, hb12⟩, ?_⟩
                      show 3 - ((j : Int) + 1).toNat < 3 - (j : Int).toNat
                      omega
                  · clear hisj hsoj
                    cases is <;> cases so
                    · skip
                      have hlt2 : decide ((j : Int) < 2) = false := by simp; omega
                      go_wp2_with fail
                      refine rg_region rdE16s1 pureE16s1 (gE16s1 j) BR (by kernel_rfl) (by kernel_rfl) (fun n => BR.drawn _ n) BR.refl (fun _ _ _ => BR.trans) ?_ ?_ ?_
                      · intro i hi vs wA wB hG hR
                        match i, hi, hG with
                        | 0, _, hG => exact hG
                        | 1, _, hG => exact hG
                        | 2, _, hG => exact hG
                        | 3, _, hG => exact hG
                        | 4, _, hG => exact hG
                        | 5, _, hG => exact hG
                        | 6, _, hG => exact hG
                        | 7, _, hG => exact hG
                        | 8, _, hG => exact hG
                        | 9, _, hG => exact hG
                        | 10, _, _ => trivial
                        | 11, _, _ => trivial
                        | 12, _, hG => exact hG
                        | 13, _, _ => trivial
                        | 14, _, _ => trivial
                        | 15, _, _ => trivial
                        | 16, _, hG => exact hG
                        | 17, _, hG => exact hG
                        | 18, _, hG => exact hG
                        | 19, _, hG => exact hG
                        | 20, _, hG => exact hG
                        | 21, _, _ => trivial
                        | 22, _, _ => trivial
                        | 23, _, _ => trivial
                        | 24, _, _ => trivial
                        | 25, _, _ => trivial
                        | 26, _, _ => trivial
                        | 27, _, _ => trivial
                        | 28, _, hG => exact hG
                        | 29, _, hG => exact hG
                        | 30, _, hG => exact hG
                        | 31, _, hG => exact hG
                        | 32, _, hG => exact hG
                        | 33, _, _ => trivial
                        | 34, _, _ => trivial
                        | 35, _, _ => trivial
                        | 36, _, _ => trivial
                        | 37, _, _ => trivial
                        | 38, _, _ => trivial
                        | 39, _, _ => trivial
                        | 40, _, hG => exact hG
                        | 41, _, hG => exact hG
                        | _ + 42, _, _ => trivial
                      · intro i op ho act wA hR hF hD
                        have sz : act.tmps.size = 196 := hF.size
                        match i, ho, hD with
                        | 0, ho, hD =>
                          cases ho
                          have e15 := slot_tmps (show slotOf act 15 = i64 0 from hF.slot 15 (by kernel_rfl))
                          refine rgw_val (wanted_none rfl) (i64 0) (by simp [go_sem, e15]) (BR.refl _) ?_
                          exact congrArg (fun v => [v]) (slotOf_same act 153 _ (by omega))
                        | 1, ho, hD =>
                          cases ho
                          have e153 := slot_tmps (List.cons.inj (hD 0 (by decide))).1
                          refine rgw_val (wanted_none rfl) (.bool false) (by simp [go_sem, e153]) (BR.refl _) ?_
                          exact congrArg (fun v => [v]) (slotOf_same act 154 _ (by omega))
                        | 2, ho, hD =>
                          cases ho
                          have e154 := slot_tmps (List.cons.inj (hD 1 (by decide))).1
                          refine rgw_val (wanted_none rfl) (.bool false) (by simp [go_sem, e154]) (BR.refl _) ?_
                          exact congrArg (fun v => [v]) (slotOf_same act 155 _ (by omega))
                        | 3, ho, hD =>
                          cases ho
                          have dj : slotOf act 155 = .bool false := (List.cons.inj (hD 2 (by decide))).1
                          have e17 := slot_tmps (show slotOf act 17 = i64 0 from hF.slot 17 (by kernel_rfl))
                          refine rgw_val (by rw [wanted_of (d := 155) rfl rfl dj]; rfl) (i64 0) (by simp [go_sem, e17]) (BR.refl _) ?_
                          exact congrArg (fun v => [v]) (slotOf_same act 156 _ (by omega))
                        | 4, ho, hD =>
                          cases ho
                          have dj : slotOf act 155 = .bool false := (List.cons.inj (hD 2 (by decide))).1
                          have e156 := slot_tmps (List.cons.inj (hD 3 (by decide))).1
                          refine rgw_val (by rw [wanted_of (d := 155) rfl rfl dj]; rfl) (.bool false) (by simp [go_sem, e156]) (BR.refl _) ?_
                          exact congrArg (fun v => [v]) (slotOf_same act 157 _ (by omega))
                        | 5, ho, hD =>
                          cases ho
                          have e155 := slot_tmps (List.cons.inj (hD 2 (by decide))).1
                          have e157 := slot_tmps (List.cons.inj (hD 4 (by decide))).1
                          refine rgw_val (wanted_none rfl) (.bool false) (by simp [go_sem, e155, e157]) (BR.refl _) ?_
                          exact congrArg (fun v => [v]) (slotOf_same act 158 _ (by omega))
                        | 6, ho, hD =>
                          cases ho
                          have e158 := slot_tmps (List.cons.inj (hD 5 (by decide))).1
                          refine rgw_val (wanted_none rfl) (.bool false) (by simp [go_sem, e158]) (BR.refl _) ?_
                          exact congrArg (fun v => [v]) (slotOf_same act 159 _ (by omega))
                        | 7, ho, hD =>
                          cases ho
                          have dj : slotOf act 159 = .bool false := (List.cons.inj (hD 6 (by decide))).1
                          have e13 := slot_tmps (show slotOf act 13 = i64 j from hF.slot 13 (by kernel_rfl))
                          refine rgw_val (by rw [wanted_of (d := 159) rfl rfl dj]; rfl) (i64 j) (by simp [go_sem, e13]) (BR.refl _) ?_
                          exact congrArg (fun v => [v]) (slotOf_same act 160 _ (by omega))
                        | 8, ho, hD =>
                          cases ho
                          have dj : slotOf act 159 = .bool false := (List.cons.inj (hD 6 (by decide))).1
                          have e160 := slot_tmps (List.cons.inj (hD 7 (by decide))).1
                          refine rgw_val (by rw [wanted_of (d := 159) rfl rfl dj]; rfl) (.bool false) (by simp [go_sem, e160, hlt2]) (BR.refl _) ?_
                          exact congrArg (fun v => [v]) (slotOf_same act 161 _ (by omega))
                        | 9, ho, hD =>
                          cases ho
                          have dj : slotOf act 159 = .bool false := (List.cons.inj (hD 6 (by decide))).1
                          have e161 := slot_tmps (List.cons.inj (hD 8 (by decide))).1
                          refine rgw_val (by rw [wanted_of (d := 159) rfl rfl dj]; rfl) (.bool false) (by simp [go_sem, e161]) (BR.refl _) ?_
                          exact congrArg (fun v => [v]) (slotOf_same act 162 _ (by omega))
                        | 10, ho, hD =>
                          cases ho
                          have dj : slotOf act 162 = .bool false := (List.cons.inj (hD 9 (by decide))).1
                          refine rgw_skip (by rw [wanted_of (d := 162) rfl rfl dj]; rfl) ?_
                          trivial
                        | 11, ho, hD =>
                          cases ho
                          have dj : slotOf act 162 = .bool false := (List.cons.inj (hD 9 (by decide))).1
                          refine rgw_skip (by rw [wanted_of (d := 162) rfl rfl dj]; rfl) ?_
                          trivial
                        | 12, ho, hD =>
                          cases ho
                          have dj : slotOf act 162 = .bool false := (List.cons.inj (hD 9 (by decide))).1
                          refine rgw_skip (by rw [wanted_of (d := 162) rfl rfl dj]; rfl) ?_
                          exact congrArg (fun v => [v]) (slotOf_same act 165 _ (by omega))
                        | 13, ho, hD =>
                          cases ho
                          have dj : slotOf act 165 = undef := (List.cons.inj (hD 12 (by decide))).1
                          refine rgw_skip (wanted_undef (d := 165) rfl rfl dj) ?_
                          trivial
                        | 14, ho, hD =>
                          cases ho
                          have dj : slotOf act 165 = undef := (List.cons.inj (hD 12 (by decide))).1
                          refine rgw_skip (wanted_undef (d := 165) rfl rfl dj) ?_
                          trivial
                        | 15, ho, hD =>
                          cases ho
                          have dj : slotOf act 162 = .bool false := (List.cons.inj (hD 9 (by decide))).1
                          refine rgw_skip (by rw [wanted_of (d := 162) rfl rfl dj]; rfl) ?_
                          trivial
                        | 16, ho, hD =>
                          cases ho
                          have dj : slotOf act 159 = .bool false := (List.cons.inj (hD 6 (by decide))).1
                          have e162 := slot_tmps (List.cons.inj (hD 9 (by decide))).1
                          refine rgw_val (by rw [wanted_of (d := 159) rfl rfl dj]; rfl) (.bool false) (by simp [go_sem, e162]) (BR.refl _) ?_
                          exact congrArg (fun v => [v]) (slotOf_same act 169 _ (by omega))
                        | 17, ho, hD =>
                          cases ho
                          have e159 := slot_tmps (List.cons.inj (hD 6 (by decide))).1
                          have e169 := slot_tmps (List.cons.inj (hD 16 (by decide))).1
                          refine rgw_val (wanted_none rfl) (.bool false) (by simp [go_sem, e159, e169]) (BR.refl _) ?_
                          exact congrArg (fun v => [v]) (slotOf_same act 170 _ (by omega))
                        | 18, ho, hD =>
                          cases ho
                          have e170 := slot_tmps (List.cons.inj (hD 17 (by decide))).1
                          refine rgw_val (wanted_none rfl) (.bool false) (by simp [go_sem, e170]) (BR.refl _) ?_
                          exact congrArg (fun v => [v]) (slotOf_same act 171 _ (by omega))
                        | 19, ho, hD =>
                          cases ho
                          have dj : slotOf act 171 = .bool false := (List.cons.inj (hD 18 (by decide))).1
                          have e14 := slot_tmps (show slotOf act 14 = .bool false from hF.slot 14 (by kernel_rfl))
                          refine rgw_val (by rw [wanted_of (d := 171) rfl rfl dj]; rfl) (.bool false) (by simp [go_sem, e14]) (BR.refl _) ?_
                          exact congrArg (fun v => [v]) (slotOf_same act 172 _ (by omega))
                        | 20, ho, hD =>
                          cases ho
                          have dj : slotOf act 171 = .bool false := (List.cons.inj (hD 18 (by decide))).1
                          have e172 := slot_tmps (List.cons.inj (hD 19 (by decide))).1
                          refine rgw_val (by rw [wanted_of (d := 171) rfl rfl dj]; rfl) (.bool false) (by simp [go_sem, e172]) (BR.refl _) ?_
                          exact congrArg (fun v => [v]) (slotOf_same act 173 _ (by omega))
                        | 21, ho, hD =>
                          cases ho
                          have dj : slotOf act 173 = .bool false := (List.cons.inj (hD 20 (by decide))).1
                          refine rgw_skip (by rw [wanted_of (d := 173) rfl rfl dj]; rfl) ?_
                          trivial
                        | 22, ho, hD =>
                          cases ho
                          have dj : slotOf act 173 = .bool false := (List.cons.inj (hD 20 (by decide))).1
                          refine rgw_skip (by rw [wanted_of (d := 173) rfl rfl dj]; rfl) ?_
                          trivial
                        | 23, ho, hD =>
                          cases ho
                          have dj : slotOf act 173 = .bool false := (List.cons.inj (hD 20 (by decide))).1
                          refine rgw_skip (by rw [wanted_of (d := 173) rfl rfl dj]; rfl) ?_
                          trivial
                        | 24, ho, hD =>
                          cases ho
                          have dj : slotOf act 173 = .bool false := (List.cons.inj (hD 20 (by decide))).1
                          refine rgw_skip (by rw [wanted_of (d := 173) rfl rfl dj]; rfl) ?_
                          trivial
                        | 25, ho, hD =>
                          cases ho
                          have dj : slotOf act 173 = .bool false := (List.cons.inj (hD 20 (by decide))).1
                          refine rgw_skip (by rw [wanted_of (d := 173) rfl rfl dj]; rfl) ?_
                          trivial
                        | 26, ho, hD =>
                          cases ho
                          have dj : slotOf act 173 = .bool false := (List.cons.inj (hD 20 (by decide))).1
                          refine rgw_skip (by rw [wanted_of (d := 173) rfl rfl dj]; rfl) ?_
                          trivial
                        | 27, ho, hD =>
                          cases ho
                          have dj : slotOf act 173 = .bool false := (List.cons.inj (hD 20 (by decide))).1
                          refine rgw_skip (by rw [wanted_of (d := 173) rfl rfl dj]; rfl) ?_
                          trivial
                        | 28, ho, hD =>
                          cases ho
                          have dj : slotOf act 171 = .bool false := (List.cons.inj (hD 18 (by decide))).1
                          have e173 := slot_tmps (List.cons.inj (hD 20 (by decide))).1
                          refine rgw_val (by rw [wanted_of (d := 171) rfl rfl dj]; rfl) (.bool false) (by simp [go_sem, e173]) (BR.refl _) ?_
                          exact congrArg (fun v => [v]) (slotOf_same act 181 _ (by omega))
                        | 29, ho, hD =>
                          cases ho
                          have e171 := slot_tmps (List.cons.inj (hD 18 (by decide))).1
                          have e181 := slot_tmps (List.cons.inj (hD 28 (by decide))).1
                          refine rgw_val (wanted_none rfl) (.bool false) (by simp [go_sem, e171, e181]) (BR.refl _) ?_
                          exact congrArg (fun v => [v]) (slotOf_same act 182 _ (by omega))
                        | 30, ho, hD =>
                          cases ho
                          have e182 := slot_tmps (List.cons.inj (hD 29 (by decide))).1
                          refine rgw_val (wanted_none rfl) (.bool false) (by simp [go_sem, e182]) (BR.refl _) ?_
                          exact congrArg (fun v => [v]) (slotOf_same act 183 _ (by omega))
                        | 31, ho, hD =>
                          cases ho
                          have dj : slotOf act 183 = .bool false := (List.cons.inj (hD 30 (by decide))).1
                          have e16 := slot_tmps (show slotOf act 16 = .bool false from hF.slot 16 (by kernel_rfl))
                          refine rgw_val (by rw [wanted_of (d := 183) rfl rfl dj]; rfl) (.bool false) (by simp [go_sem, e16]) (BR.refl _) ?_
                          exact congrArg (fun v => [v]) (slotOf_same act 184 _ (by omega))
                        | 32, ho, hD =>
                          cases ho
                          have dj : slotOf act 183 = .bool false := (List.cons.inj (hD 30 (by decide))).1
                          have e184 := slot_tmps (List.cons.inj (hD 31 (by decide))).1
                          refine rgw_val (by rw [wanted_of (d := 183) rfl rfl dj]; rfl) (.bool false) (by simp [go_sem, e184]) (BR.refl _) ?_
                          exact congrArg (fun v => [v]) (slotOf_same act 185 _ (by omega))
                        | 33, ho, hD =>
                          cases ho
                          have dj : slotOf act 185 = .bool false := (List.cons.inj (hD 32 (by decide))).1
                          refine rgw_skip (by rw [wanted_of (d := 185) rfl rfl dj]; rfl) ?_
                          trivial
                        | 34, ho, hD =>
                          cases ho
                          have dj : slotOf act 185 = .bool false := (List.cons.inj (hD 32 (by decide))).1
                          refine rgw_skip (by rw [wanted_of (d := 185) rfl rfl dj]; rfl) ?_
                          trivial
                        | 35, ho, hD =>
                          cases ho
                          have dj : slotOf act 185 = .bool false := (List.cons.inj (hD 32 (by decide))).1
                          refine rgw_skip (by rw [wanted_of (d := 185) rfl rfl dj]; rfl) ?_
                          trivial
                        | 36, ho, hD =>
                          cases ho
                          have dj : slotOf act 185 = .bool false := (List.cons.inj (hD 32 (by decide))).1
                          refine rgw_skip (by rw [wanted_of (d := 185) rfl rfl dj]; rfl) ?_
                          trivial
                        | 37, ho, hD =>
                          cases ho
                          have dj : slotOf act 185 = .bool false := (List.cons.inj (hD 32 (by decide))).1
                          refine rgw_skip (by rw [wanted_of (d := 185) rfl rfl dj]; rfl) ?_
                          trivial
                        | 38, ho, hD =>
                          cases ho
                          have dj : slotOf act 185 = .bool false := (List.cons.inj (hD 32 (by decide))).1
                          refine rgw_skip (by rw [wanted_of (d := 185) rfl rfl dj]; rfl) ?_
                          trivial
                        | 39, ho, hD =>
                          cases ho
                          have dj : slotOf act 185 = .bool false := (List.cons.inj (hD 32 (by decide))).1
                          refine rgw_skip (by rw [wanted_of (d := 185) rfl rfl dj]; rfl) ?_
                          trivial
                        | 40, ho, hD =>
                          cases ho
                          have dj : slotOf act 183 = .bool false := (List.cons.inj (hD 30 (by decide))).1
                          have e185 := slot_tmps (List.cons.inj (hD 32 (by decide))).1
                          refine rgw_val (by rw [wanted_of (d := 183) rfl rfl dj]; rfl) (.bool false) (by simp [go_sem, e185]) (BR.refl _) ?_
                          exact congrArg (fun v => [v]) (slotOf_same act 193 _ (by omega))
                        | 41, ho, hD =>
                          cases ho
                          have e183 := slot_tmps (List.cons.inj (hD 30 (by decide))).1
                          have e193 := slot_tmps (List.cons.inj (hD 40 (by decide))).1
                          refine rgw_val (wanted_none rfl) (.bool false) (by simp [go_sem, e183, e193]) (BR.refl _) ?_
                          exact congrArg (fun v => [v]) (slotOf_same act 194 _ (by omega))
                        | _ + 42, ho, _ => cases ho
                      · intro act wA hR hF hA
                        have f2 : slotOf act 2 = .pointer (some ⟨w.heap.size, 0, none⟩) := hF.slot 2 (by kernel_rfl)
                        have f4 : slotOf act 4 = .bool false := hF.slot 4 (by kernel_rfl)
                        have f5 : slotOf act 5 = i64 k := hF.slot 5 (by kernel_rfl)
                        have f6 : slotOf act 6 = i64 1 := hF.slot 6 (by kernel_rfl)
                        have f7 : slotOf act 7 = .pointer (some ⟨p, 0, none⟩) := hF.slot 7 (by kernel_rfl)
                        have f9 : slotOf act 9 = .pointer (some ⟨q, 0, none⟩) := hF.slot 9 (by kernel_rfl)
                        have f11 : slotOf act 11 = .slice (some ⟨gl, 0, none⟩) 3 3 := hF.slot 11 (by kernel_rfl)
                        have f12 : slotOf act 12 = .slice (some ⟨gm, 0, none⟩) 3 3 := hF.slot 12 (by kernel_rfl)
                        have f13 : slotOf act 13 = i64 j := hF.slot 13 (by kernel_rfl)
                        have f14 : slotOf act 14 = .bool false := hF.slot 14 (by kernel_rfl)
                        have f15 : slotOf act 15 = i64 0 := hF.slot 15 (by kernel_rfl)
                        have f16 : slotOf act 16 = .bool false := hF.slot 16 (by kernel_rfl)
                        have f17 : slotOf act 17 = i64 0 := hF.slot 17 (by kernel_rfl)
                        have f153 : slotOf act 153 = i64 0 := (List.cons.inj (hA 0 (by decide))).1
                        have f154 : slotOf act 154 = .bool false := (List.cons.inj (hA 1 (by decide))).1
                        have f155 : slotOf act 155 = .bool false := (List.cons.inj (hA 2 (by decide))).1
                        have f156 : slotOf act 156 = i64 0 := (List.cons.inj (hA 3 (by decide))).1
                        have f157 : slotOf act 157 = .bool false := (List.cons.inj (hA 4 (by decide))).1
                        have f158 : slotOf act 158 = .bool false := (List.cons.inj (hA 5 (by decide))).1
                        have f159 : slotOf act 159 = .bool false := (List.cons.inj (hA 6 (by decide))).1
                        have f160 : slotOf act 160 = i64 j := (List.cons.inj (hA 7 (by decide))).1
                        have f161 : slotOf act 161 = .bool false := (List.cons.inj (hA 8 (by decide))).1
                        have f162 : slotOf act 162 = .bool false := (List.cons.inj (hA 9 (by decide))).1
                        have f169 : slotOf act 169 = .bool false := (List.cons.inj (hA 16 (by decide))).1
                        have f170 : slotOf act 170 = .bool false := (List.cons.inj (hA 17 (by decide))).1
                        have f171 : slotOf act 171 = .bool false := (List.cons.inj (hA 18 (by decide))).1
                        have f172 : slotOf act 172 = .bool false := (List.cons.inj (hA 19 (by decide))).1
                        have f173 : slotOf act 173 = .bool false := (List.cons.inj (hA 20 (by decide))).1
                        have f181 : slotOf act 181 = .bool false := (List.cons.inj (hA 28 (by decide))).1
                        have f182 : slotOf act 182 = .bool false := (List.cons.inj (hA 29 (by decide))).1
                        have f183 : slotOf act 183 = .bool false := (List.cons.inj (hA 30 (by decide))).1
                        have f184 : slotOf act 184 = .bool false := (List.cons.inj (hA 31 (by decide))).1
                        have f185 : slotOf act 185 = .bool false := (List.cons.inj (hA 32 (by decide))).1
                        have f193 : slotOf act 193 = .bool false := (List.cons.inj (hA 40 (by decide))).1
                        have f194 : slotOf act 194 = .bool false := (List.cons.inj (hA 41 (by decide))).1
                        rw [act_eta act 196 hF.size hF.defers]
                        simp only [show List.range 196 = [0, 1, 2, 3, 4, 5, 6, 7, 8, 9, 10, 11, 12, 13, 14, 15, 16, 17, 18, 19, 20, 21, 22, 23, 24, 25, 26, 27, 28, 29, 30, 31, 32, 33, 34, 35, 36, 37, 38, 39, 40, 41, 42, 43, 44, 45, 46, 47, 48, 49, 50, 51, 52, 53, 54, 55, 56, 57, 58, 59, 60, 61, 62, 63, 64, 65, 66, 67, 68, 69, 70, 71, 72, 73, 74, 75, 76, 77, 78, 79, 80, 81, 82, 83, 84, 85, 86, 87, 88, 89, 90, 91, 92, 93, 94, 95, 96, 97, 98, 99, 100, 101, 102, 103, 104, 105, 106, 107, 108, 109, 110, 111, 112, 113, 114, 115, 116, 117, 118, 119, 120, 121, 122, 123, 124, 125, 126, 127, 128, 129, 130, 131, 132, 133, 134, 135, 136, 137, 138, 139, 140, 141, 142, 143, 144, 145, 146, 147, 148, 149, 150, 151, 152, 153, 154, 155, 156, 157, 158, 159, 160, 161, 162, 163, 164, 165, 166, 167, 168, 169, 170, 171, 172, 173, 174, 175, 176, 177, 178, 179, 180, 181, 182, 183, 184, 185, 186, 187, 188, 189, 190, 191, 192, 193, 194, 195] from rfl, List.map_cons, List.map_nil, f2, f4, f5, f6, f7, f9, f11, f12, f13, f14, f15, f16, f17, f153, f154, f155, f156, f157, f158, f159, f160, f161, f162, f169, f170, f171, f172, f173, f181, f182, f183, f184, f185, f193, f194]
                        clear hA hF f2 f4 f5 f6 f7 f9 f11 f12 f13 f14 f15 f16 f17 f153 f154 f155 f156 f157 f158 f159 f160 f161 f162 f169 f170 f171 f172 f173 f181 f182 f183 f184 f185 f193 f194
                        have hb12 := hb11.trans (Below.mono hR hb11.size)
                        clear hR
                        go_wp2_with fail
                        refine ⟨⟨j + 1, by omega, rfl, rfl, rfl, rfl, rfl, rfl, rfl, rfl, rfl, rfl, congrArg (Value.int .i64) (Int.natCast_succ j).symm, hb12⟩, ?_⟩
                        show 3 - ((j : Int) + 1).toNat < 3 - (j : Int).toNat
                        omega
                    · skip
                      have hlt2 : decide ((j : Int) < 2) = false := by simp; omega
                      have hIy : inB y u v = true := inB_true (hso3 rfl).1 (hso3 rfl).2
                      go_wp2_with fail
                      refine rg_region rdE16s1S pureE16s1S (gE16s1S gm j u v y) BR (by kernel_rfl) (by kernel_rfl) (fun n => BR.drawn _ n) BR.refl (fun _ _ _ => BR.trans) ?_ ?_ ?_
                      · intro i hi vs wA wB hG hR
                        match i, hi, hG with
                        | 0, _, hG => exact hG
                        | 1, _, hG => exact hG
                        | 2, _, hG => exact hG
                        | 3, _, hG => exact hG
                        | 4, _, hG => exact hG
                        | 5, _, hG => exact hG
                        | 6, _, hG => exact hG
                        | 7, _, hG => exact hG
                        | 8, _, hG => exact hG
                        | 9, _, hG => exact hG
                        | 10, _, _ => trivial
                        | 11, _, _ => trivial
                        | 12, _, hG => exact hG
                        | 13, _, _ => trivial
                        | 14, _, _ => trivial
                        | 15, _, _ => trivial
                        | 16, _, hG => exact hG
                        | 17, _, hG => exact hG
                        | 18, _, hG => exact hG
                        | 19, _, hG => exact hG
                        | 20, _, hG => exact hG
                        | 21, _, _ => trivial
                        | 22, _, _ => trivial
                        | 23, _, _ => trivial
                        | 24, _, _ => trivial
                        | 25, _, _ => trivial
                        | 26, _, _ => trivial
                        | 27, _, _ => trivial
                        | 28, _, hG => exact hG
                        | 29, _, hG => exact hG
                        | 30, _, hG => exact hG
                        | 31, _, hG => exact hG
                        | 32, _, hG => exact hG
                        | 33, _, hG => exact hG
                        | 34, _, hG => exact hG
                        | 35, _, hG => exact hG
                        | 36, _, hG => exact hG
                        | 37, _, hG => exact hG
                        | 38, _, hG => exact hG
                        | 39, _, hG => exact hG
                        | 40, _, hG => exact hG
                        | 41, _, hG => exact hG
                        | _ + 42, _, _ => trivial
                      · intro i op ho act wA hR hF hD
                        have sz : act.tmps.size = 196 := hF.size
                        match i, ho, hD with
                        | 0, ho, hD =>
                          cases ho
                          have e15 := slot_tmps (show slotOf act 15 = i64 0 from hF.slot 15 (by kernel_rfl))
                          refine rgw_val (wanted_none rfl) (i64 0) (by simp [go_sem, e15]) (BR.refl _) ?_
                          exact congrArg (fun v => [v]) (slotOf_same act 153 _ (by omega))
                        | 1, ho, hD =>
                          cases ho
                          have e153 := slot_tmps (List.cons.inj (hD 0 (by decide))).1
                          refine rgw_val (wanted_none rfl) (.bool false) (by simp [go_sem, e153]) (BR.refl _) ?_
                          exact congrArg (fun v => [v]) (slotOf_same act 154 _ (by omega))
                        | 2, ho, hD =>
                          cases ho
                          have e154 := slot_tmps (List.cons.inj (hD 1 (by decide))).1
                          refine rgw_val (wanted_none rfl) (.bool false) (by simp [go_sem, e154]) (BR.refl _) ?_
                          exact congrArg (fun v => [v]) (slotOf_same act 155 _ (by omega))
                        | 3, ho, hD =>
                          cases ho
                          have dj : slotOf act 155 = .bool false := (List.cons.inj (hD 2 (by decide))).1
                          have e17 := slot_tmps (show slotOf act 17 = i64 0 from hF.slot 17 (by kernel_rfl))
                          refine rgw_val (by rw [wanted_of (d := 155) rfl rfl dj]; rfl) (i64 0) (by simp [go_sem, e17]) (BR.refl _) ?_
                          exact congrArg (fun v => [v]) (slotOf_same act 156 _ (by omega))
                        | 4, ho, hD =>
                          cases ho
                          have dj : slotOf act 155 = .bool false := (List.cons.inj (hD 2 (by decide))).1
                          have e156 := slot_tmps (List.cons.inj (hD 3 (by decide))).1
                          refine rgw_val (by rw [wanted_of (d := 155) rfl rfl dj]; rfl) (.bool false) (by simp [go_sem, e156]) (BR.refl _) ?_
                          exact congrArg (fun v => [v]) (slotOf_same act 157 _ (by omega))
                        | 5, ho, hD =>
                          cases ho
                          have e155 := slot_tmps (List.cons.inj (hD 2 (by decide))).1
                          have e157 := slot_tmps (List.cons.inj (hD 4 (by decide))).1
                          refine rgw_val (wanted_none rfl) (.bool false) (by simp [go_sem, e155, e157]) (BR.refl _) ?_
                          exact congrArg (fun v => [v]) (slotOf_same act 158 _ (by omega))
                        | 6, ho, hD =>
                          cases ho
                          have e158 := slot_tmps (List.cons.inj (hD 5 (by decide))).1
                          refine rgw_val (wanted_none rfl) (.bool false) (by simp [go_sem, e158]) (BR.refl _) ?_
                          exact congrArg (fun v => [v]) (slotOf_same act 159 _ (by omega))
                        | 7, ho, hD =>
                          cases ho
                          have dj : slotOf act 159 = .bool false := (List.cons.inj (hD 6 (by decide))).1
                          have e13 := slot_tmps (show slotOf act 13 = i64 j from hF.slot 13 (by kernel_rfl))
                          refine rgw_val (by rw [wanted_of (d := 159) rfl rfl dj]; rfl) (i64 j) (by simp [go_sem, e13]) (BR.refl _) ?_
                          exact congrArg (fun v => [v]) (slotOf_same act 160 _ (by omega))
                        | 8, ho, hD =>
                          cases ho
                          have dj : slotOf act 159 = .bool false := (List.cons.inj (hD 6 (by decide))).1
                          have e160 := slot_tmps (List.cons.inj (hD 7 (by decide))).1
                          refine rgw_val (by rw [wanted_of (d := 159) rfl rfl dj]; rfl) (.bool false) (by simp [go_sem, e160, hlt2]) (BR.refl _) ?_
                          exact congrArg (fun v => [v]) (slotOf_same act 161 _ (by omega))
                        | 9, ho, hD =>
                          cases ho
                          have dj : slotOf act 159 = .bool false := (List.cons.inj (hD 6 (by decide))).1
                          have e161 := slot_tmps (List.cons.inj (hD 8 (by decide))).1
                          refine rgw_val (by rw [wanted_of (d := 159) rfl rfl dj]; rfl) (.bool false) (by simp [go_sem, e161]) (BR.refl _) ?_
                          exact congrArg (fun v => [v]) (slotOf_same act 162 _ (by omega))
                        | 10, ho, hD =>
                          cases ho
                          have dj : slotOf act 162 = .bool false := (List.cons.inj (hD 9 (by decide))).1
                          refine rgw_skip (by rw [wanted_of (d := 162) rfl rfl dj]; rfl) ?_
                          trivial
                        | 11, ho, hD =>
                          cases ho
                          have dj : slotOf act 162 = .bool false := (List.cons.inj (hD 9 (by decide))).1
                          refine rgw_skip (by rw [wanted_of (d := 162) rfl rfl dj]; rfl) ?_
                          trivial
                        | 12, ho, hD =>
                          cases ho
                          have dj : slotOf act 162 = .bool false := (List.cons.inj (hD 9 (by decide))).1
                          refine rgw_skip (by rw [wanted_of (d := 162) rfl rfl dj]; rfl) ?_
                          exact congrArg (fun v => [v]) (slotOf_same act 165 _ (by omega))
                        | 13, ho, hD =>
                          cases ho
                          have dj : slotOf act 165 = undef := (List.cons.inj (hD 12 (by decide))).1
                          refine rgw_skip (wanted_undef (d := 165) rfl rfl dj) ?_
                          trivial
                        | 14, ho, hD =>
                          cases ho
                          have dj : slotOf act 165 = undef := (List.cons.inj (hD 12 (by decide))).1
                          refine rgw_skip (wanted_undef (d := 165) rfl rfl dj) ?_
                          trivial
                        | 15, ho, hD =>
                          cases ho
                          have dj : slotOf act 162 = .bool false := (List.cons.inj (hD 9 (by decide))).1
                          refine rgw_skip (by rw [wanted_of (d := 162) rfl rfl dj]; rfl) ?_
                          trivial
                        | 16, ho, hD =>
                          cases ho
                          have dj : slotOf act 159 = .bool false := (List.cons.inj (hD 6 (by decide))).1
                          have e162 := slot_tmps (List.cons.inj (hD 9 (by decide))).1
                          refine rgw_val (by rw [wanted_of (d := 159) rfl rfl dj]; rfl) (.bool false) (by simp [go_sem, e162]) (BR.refl _) ?_
                          exact congrArg (fun v => [v]) (slotOf_same act 169 _ (by omega))
                        | 17, ho, hD =>
                          cases ho
                          have e159 := slot_tmps (List.cons.inj (hD 6 (by decide))).1
                          have e169 := slot_tmps (List.cons.inj (hD 16 (by decide))).1
                          refine rgw_val (wanted_none rfl) (.bool false) (by simp [go_sem, e159, e169]) (BR.refl _) ?_
                          exact congrArg (fun v => [v]) (slotOf_same act 170 _ (by omega))
                        | 18, ho, hD =>
                          cases ho
                          have e170 := slot_tmps (List.cons.inj (hD 17 (by decide))).1
                          refine rgw_val (wanted_none rfl) (.bool false) (by simp [go_sem, e170]) (BR.refl _) ?_
                          exact congrArg (fun v => [v]) (slotOf_same act 171 _ (by omega))
                        | 19, ho, hD =>
                          cases ho
                          have dj : slotOf act 171 = .bool false := (List.cons.inj (hD 18 (by decide))).1
                          have e14 := slot_tmps (show slotOf act 14 = .bool false from hF.slot 14 (by kernel_rfl))
                          refine rgw_val (by rw [wanted_of (d := 171) rfl rfl dj]; rfl) (.bool false) (by simp [go_sem, e14]) (BR.refl _) ?_
                          exact congrArg (fun v => [v]) (slotOf_same act 172 _ (by omega))
                        | 20, ho, hD =>
                          cases ho
                          have dj : slotOf act 171 = .bool false := (List.cons.inj (hD 18 (by decide))).1
                          have e172 := slot_tmps (List.cons.inj (hD 19 (by decide))).1
                          refine rgw_val (by rw [wanted_of (d := 171) rfl rfl dj]; rfl) (.bool false) (by simp [go_sem, e172]) (BR.refl _) ?_
                          exact congrArg (fun v => [v]) (slotOf_same act 173 _ (by omega))
                        | 21, ho, hD =>
                          cases ho
                          have dj : slotOf act 173 = .bool false := (List.cons.inj (hD 20 (by decide))).1
                          refine rgw_skip (by rw [wanted_of (d := 173) rfl rfl dj]; rfl) ?_
                          trivial
                        | 22, ho, hD =>
                          cases ho
                          have dj : slotOf act 173 = .bool false := (List.cons.inj (hD 20 (by decide))).1
                          refine rgw_skip (by rw [wanted_of (d := 173) rfl rfl dj]; rfl) ?_
                          trivial
                        | 23, ho, hD =>
                          cases ho
                          have dj : slotOf act 173 = .bool false := (List.cons.inj (hD 20 (by decide))).1
                          refine rgw_skip (by rw [wanted_of (d := 173) rfl rfl dj]; rfl) ?_
                          trivial
                        | 24, ho, hD =>
                          cases ho
                          have dj : slotOf act 173 = .bool false := (List.cons.inj (hD 20 (by decide))).1
                          refine rgw_skip (by rw [wanted_of (d := 173) rfl rfl dj]; rfl) ?_
                          trivial
                        | 25, ho, hD =>
                          cases ho
                          have dj : slotOf act 173 = .bool false := (List.cons.inj (hD 20 (by decide))).1
                          refine rgw_skip (by rw [wanted_of (d := 173) rfl rfl dj]; rfl) ?_
                          trivial
                        | 26, ho, hD =>
                          cases ho
                          have dj : slotOf act 173 = .bool false := (List.cons.inj (hD 20 (by decide))).1
                          refine rgw_skip (by rw [wanted_of (d := 173) rfl rfl dj]; rfl) ?_
                          trivial
                        | 27, ho, hD =>
                          cases ho
                          have dj : slotOf act 173 = .bool false := (List.cons.inj (hD 20 (by decide))).1
                          refine rgw_skip (by rw [wanted_of (d := 173) rfl rfl dj]; rfl) ?_
                          trivial
                        | 28, ho, hD =>
                          cases ho
                          have dj : slotOf act 171 = .bool false := (List.cons.inj (hD 18 (by decide))).1
                          have e173 := slot_tmps (List.cons.inj (hD 20 (by decide))).1
                          refine rgw_val (by rw [wanted_of (d := 171) rfl rfl dj]; rfl) (.bool false) (by simp [go_sem, e173]) (BR.refl _) ?_
                          exact congrArg (fun v => [v]) (slotOf_same act 181 _ (by omega))
                        | 29, ho, hD =>
                          cases ho
                          have e171 := slot_tmps (List.cons.inj (hD 18 (by decide))).1
                          have e181 := slot_tmps (List.cons.inj (hD 28 (by decide))).1
                          refine rgw_val (wanted_none rfl) (.bool false) (by simp [go_sem, e171, e181]) (BR.refl _) ?_
                          exact congrArg (fun v => [v]) (slotOf_same act 182 _ (by omega))
                        | 30, ho, hD =>
                          cases ho
                          have e182 := slot_tmps (List.cons.inj (hD 29 (by decide))).1
                          refine rgw_val (wanted_none rfl) (.bool false) (by simp [go_sem, e182]) (BR.refl _) ?_
                          exact congrArg (fun v => [v]) (slotOf_same act 183 _ (by omega))
                        | 31, ho, hD =>
                          cases ho
                          have dj : slotOf act 183 = .bool false := (List.cons.inj (hD 30 (by decide))).1
                          have e16 := slot_tmps (show slotOf act 16 = .bool true from hF.slot 16 (by kernel_rfl))
                          refine rgw_val (by rw [wanted_of (d := 183) rfl rfl dj]; rfl) (.bool true) (by simp [go_sem, e16]) (BR.refl _) ?_
                          exact congrArg (fun v => [v]) (slotOf_same act 184 _ (by omega))
                        | 32, ho, hD =>
                          cases ho
                          have dj : slotOf act 183 = .bool false := (List.cons.inj (hD 30 (by decide))).1
                          have e184 := slot_tmps (List.cons.inj (hD 31 (by decide))).1
                          refine rgw_val (by rw [wanted_of (d := 183) rfl rfl dj]; rfl) (.bool true) (by simp [go_sem, e184]) (BR.refl _) ?_
                          exact congrArg (fun v => [v]) (slotOf_same act 185 _ (by omega))
                        | 33, ho, hD =>
                          cases ho
                          have dj : slotOf act 185 = .bool true := (List.cons.inj (hD 32 (by decide))).1
                          have e9 := slot_tmps (show slotOf act 9 = .pointer (some ⟨q, 0, none⟩) from hF.slot 9 (by kernel_rfl))
                          have hqA := (Below.block hR _ hql11).trans hq11
                          have hqc := cells_of hqA
                          refine rgw_val (by rw [wanted_of (d := 185) rfl rfl dj]; rfl) (.agg #[i64 u, i64 v]) (by simp [go_sem, e9, hqc]) (BR.refl _) ?_
                          exact congrArg (fun v => [v]) (slotOf_same act 186 _ (by omega))
                        | 34, ho, hD =>
                          cases ho
                          have dj : slotOf act 185 = .bool true := (List.cons.inj (hD 32 (by decide))).1
                          have e12 := slot_tmps (show slotOf act 12 = .slice (some ⟨gm, 0, none⟩) 3 3 from hF.slot 12 (by kernel_rfl))
                          refine rgw_val (by rw [wanted_of (d := 185) rfl rfl dj]; rfl) (.slice (some ⟨gm, 0, none⟩) 3 3) (by simp [go_sem, e12]) (BR.refl _) ?_
                          exact congrArg (fun v => [v]) (slotOf_same act 187 _ (by omega))
                        | 35, ho, hD =>
                          cases ho
                          have dj : slotOf act 185 = .bool true := (List.cons.inj (hD 32 (by decide))).1
                          have e13 := slot_tmps (show slotOf act 13 = i64 j from hF.slot 13 (by kernel_rfl))
                          refine rgw_val (by rw [wanted_of (d := 185) rfl rfl dj]; rfl) (i64 j) (by simp [go_sem, e13]) (BR.refl _) ?_
                          exact congrArg (fun v => [v]) (slotOf_same act 188 _ (by omega))
                        | 36, ho, hD =>
                          cases ho
                          have dj : slotOf act 185 = .bool true := (List.cons.inj (hD 32 (by decide))).1
                          have e187 := slot_tmps (List.cons.inj (hD 34 (by decide))).1
                          have e188 := slot_tmps (List.cons.inj (hD 35 (by decide))).1
                          refine rgw_val (by rw [wanted_of (d := 185) rfl rfl dj]; rfl) (.pointer (some ⟨gm, j, none⟩)) (by simp [go_sem, e187, e188, higm]) (BR.refl _) ?_
                          exact congrArg (fun v => [v]) (slotOf_same act 189 _ (by omega))
                        | 37, ho, hD =>
                          cases ho
                          have dj : slotOf act 185 = .bool true := (List.cons.inj (hD 32 (by decide))).1
                          have e189 := slot_tmps (List.cons.inj (hD 36 (by decide))).1
                          have cyA := (Below.cell hR (p := ⟨gm, j, none⟩) hgm11l).trans cy11
                          refine rgw_val (by rw [wanted_of (d := 185) rfl rfl dj]; rfl) (i64 y) (by simp [go_sem, e189, cyA]) (BR.refl _) ?_
                          exact congrArg (fun v => [v]) (slotOf_same act 190 _ (by omega))
                        | 38, ho, hD =>
                          cases ho
                          have dj : slotOf act 185 = .bool true := (List.cons.inj (hD 32 (by decide))).1
                          have e186 := slot_tmps (List.cons.inj (hD 33 (by decide))).1
                          have e190 := slot_tmps (List.cons.inj (hD 37 (by decide))).1
                          refine rgw_call (by rw [wanted_of (d := 185) rfl rfl dj]; rfl) 30 #[.agg #[i64 u, i64 v], i64 y] (by simp [go_sem, e186, e190]) rfl ?_
                          refine (contains24_any _ _ _ _).mono ?_
                          rintro e wB ⟨rfl, hb⟩
                          rw [hIy]
                          exact ⟨_, rfl, hb, congrArg (fun v => [v]) (slotOf_same act 191 _ (by omega))⟩
                        | 39, ho, hD =>
                          cases ho
                          have dj : slotOf act 185 = .bool true := (List.cons.inj (hD 32 (by decide))).1
                          have e191 := slot_tmps (List.cons.inj (hD 38 (by decide))).1
                          refine rgw_val (by rw [wanted_of (d := 185) rfl rfl dj]; rfl) (.bool false) (by simp [go_sem, e191]) (BR.refl _) ?_
                          exact congrArg (fun v => [v]) (slotOf_same act 192 _ (by omega))
                        | 40, ho, hD =>
                          cases ho
                          have dj : slotOf act 183 = .bool false := (List.cons.inj (hD 30 (by decide))).1
                          have e185 := slot_tmps (List.cons.inj (hD 32 (by decide))).1
                          have e192 := slot_tmps (List.cons.inj (hD 39 (by decide))).1
                          refine rgw_val (by rw [wanted_of (d := 183) rfl rfl dj]; rfl) (.bool false) (by simp [go_sem, e185, e192]) (BR.refl _) ?_
                          exact congrArg (fun v => [v]) (slotOf_same act 193 _ (by omega))
                        | 41, ho, hD =>
                          cases ho
                          have e183 := slot_tmps (List.cons.inj (hD 30 (by decide))).1
                          have e193 := slot_tmps (List.cons.inj (hD 40 (by decide))).1
                          refine rgw_val (wanted_none rfl) (.bool false) (by simp [go_sem, e183, e193]) (BR.refl _) ?_
                          exact congrArg (fun v => [v]) (slotOf_same act 194 _ (by omega))
                        | _ + 42, ho, _ => cases ho
                      · intro act wA hR hF hA
                        have f2 : slotOf act 2 = .pointer (some ⟨w.heap.size, 0, none⟩) := hF.slot 2 (by kernel_rfl)
                        have f4 : slotOf act 4 = .bool false := hF.slot 4 (by kernel_rfl)
                        have f5 : slotOf act 5 = i64 k := hF.slot 5 (by kernel_rfl)
                        have f6 : slotOf act 6 = i64 1 := hF.slot 6 (by kernel_rfl)
                        have f7 : slotOf act 7 = .pointer (some ⟨p, 0, none⟩) := hF.slot 7 (by kernel_rfl)
                        have f9 : slotOf act 9 = .pointer (some ⟨q, 0, none⟩) := hF.slot 9 (by kernel_rfl)
                        have f11 : slotOf act 11 = .slice (some ⟨gl, 0, none⟩) 3 3 := hF.slot 11 (by kernel_rfl)
                        have f12 : slotOf act 12 = .slice (some ⟨gm, 0, none⟩) 3 3 := hF.slot 12 (by kernel_rfl)
                        have f13 : slotOf act 13 = i64 j := hF.slot 13 (by kernel_rfl)
                        have f14 : slotOf act 14 = .bool false := hF.slot 14 (by kernel_rfl)
                        have f15 : slotOf act 15 = i64 0 := hF.slot 15 (by kernel_rfl)
                        have f16 : slotOf act 16 = .bool true := hF.slot 16 (by kernel_rfl)
                        have f17 : slotOf act 17 = i64 0 := hF.slot 17 (by kernel_rfl)
                        have f153 : slotOf act 153 = i64 0 := (List.cons.inj (hA 0 (by decide))).1
                        have f154 : slotOf act 154 = .bool false := (List.cons.inj (hA 1 (by decide))).1
                        have f155 : slotOf act 155 = .bool false := (List.cons.inj (hA 2 (by decide))).1
                        have f156 : slotOf act 156 = i64 0 := (List.cons.inj (hA 3 (by decide))).1
                        have f157 : slotOf act 157 = .bool false := (List.cons.inj (hA 4 (by decide))).1
                        have f158 : slotOf act 158 = .bool false := (List.cons.inj (hA 5 (by decide))).1
                        have f159 : slotOf act 159 = .bool false := (List.cons.inj (hA 6 (by decide))).1
                        have f160 : slotOf act 160 = i64 j := (List.cons.inj (hA 7 (by decide))).1
                        have f161 : slotOf act 161 = .bool false := (List.cons.inj (hA 8 (by decide))).1
                        have f162 : slotOf act 162 = .bool false := (List.cons.inj (hA 9 (by decide))).1
                        have f169 : slotOf act 169 = .bool false := (List.cons.inj (hA 16 (by decide))).1
                        have f170 : slotOf act 170 = .bool false := (List.cons.inj (hA 17 (by decide))).1
                        have f171 : slotOf act 171 = .bool false := (List.cons.inj (hA 18 (by decide))).1
                        have f172 : slotOf act 172 = .bool false := (List.cons.inj (hA 19 (by decide))).1
                        have f173 : slotOf act 173 = .bool false := (List.cons.inj (hA 20 (by decide))).1
                        have f181 : slotOf act 181 = .bool false := (List.cons.inj (hA 28 (by decide))).1
                        have f182 : slotOf act 182 = .bool false := (List.cons.inj (hA 29 (by decide))).1
                        have f183 : slotOf act 183 = .bool false := (List.cons.inj (hA 30 (by decide))).1
                        have f184 : slotOf act 184 = .bool true := (List.cons.inj (hA 31 (by decide))).1
                        have f185 : slotOf act 185 = .bool true := (List.cons.inj (hA 32 (by decide))).1
                        have f186 : slotOf act 186 = .agg #[i64 u, i64 v] := (List.cons.inj (hA 33 (by decide))).1
                        have f187 : slotOf act 187 = .slice (some ⟨gm, 0, none⟩) 3 3 := (List.cons.inj (hA 34 (by decide))).1
                        have f188 : slotOf act 188 = i64 j := (List.cons.inj (hA 35 (by decide))).1
                        have f189 : slotOf act 189 = .pointer (some ⟨gm, j, none⟩) := (List.cons.inj (hA 36 (by decide))).1
                        have f190 : slotOf act 190 = i64 y := (List.cons.inj (hA 37 (by decide))).1
                        have f191 : slotOf act 191 = .bool true := (List.cons.inj (hA 38 (by decide))).1
                        have f192 : slotOf act 192 = .bool false := (List.cons.inj (hA 39 (by decide))).1
                        have f193 : slotOf act 193 = .bool false := (List.cons.inj (hA 40 (by decide))).1
                        have f194 : slotOf act 194 = .bool false := (List.cons.inj (hA 41 (by decide))).1
                        rw [act_eta act 196 hF.size hF.defers]
                        simp only [show List.range 196 = [0, 1, 2, 3, 4, 5, 6, 7, 8, 9, 10, 11, 12, 13, 14, 15, 16, 17, 18, 19, 20, 21, 22, 23, 24, 25, 26, 27, 28, 29, 30, 31, 32, 33, 34, 35, 36, 37, 38, 39, 40, 41, 42, 43, 44, 45, 46, 47, 48, 49, 50, 51, 52, 53, 54, 55, 56, 57, 58, 59, 60, 61, 62, 63, 64, 65, 66, 67, 68, 69, 70, 71, 72, 73, 74, 75, 76, 77, 78, 79, 80, 81, 82, 83, 84, 85, 86, 87, 88, 89, 90, 91, 92, 93, 94, 95, 96, 97, 98, 99, 100, 101, 102, 103, 104, 105, 106, 107, 108, 109, 110, 111, 112, 113, 114, 115, 116, 117, 118, 119, 120, 121, 122, 123, 124, 125, 126, 127, 128, 129, 130, 131, 132, 133, 134, 135, 136, 137, 138, 139, 140, 141, 142, 143, 144, 145, 146, 147, 148, 149, 150, 151, 152, 153, 154, 155, 156, 157, 158, 159, 160, 161, 162, 163, 164, 165, 166, 167, 168, 169, 170, 171, 172, 173, 174, 175, 176, 177, 178, 179, 180, 181, 182, 183, 184, 185, 186, 187, 188, 189, 190, 191, 192, 193, 194, 195] from rfl, List.map_cons, List.map_nil, f2, f4, f5, f6, f7, f9, f11, f12, f13, f14, f15, f16, f17, f153, f154, f155, f156, f157, f158, f159, f160, f161, f162, f169, f170, f171, f172, f173, f181, f182, f183, f184, f185, f186, f187, f188, f189, f190, f191, f192, f193, f194]
                        clear hA hF f2 f4 f5 f6 f7 f9 f11 f12 f13 f14 f15 f16 f17 f153 f154 f155 f156 f157 f158 f159 f160 f161 f162 f169 f170 f171 f172 f173 f181 f182 f183 f184 f185 f186 f187 f188 f189 f190 f191 f192 f193 f194
                        have hb12 := hb11.trans (Below.mono hR hb11.size)
                        clear hR
                        go_wp2_with fail
                        refine ⟨⟨j + 1, by omega, rfl, rfl, rfl, rfl, rfl, rfl, rfl, rfl, rfl, rfl, congrArg (Value.int .i64) (Int.natCast_succ j).symm, hb12⟩, ?_⟩
                        show 3 - ((j : Int) + 1).toNat < 3 - (j : Int).toNat
                        omega
                    · skip
                      have hlt2 : decide ((j : Int) < 2) = false := by simp; omega
                      have hIx : inB x a b = true := inB_true (his3 rfl).1 (his3 rfl).2
                      go_wp2_with fail
                      refine rg_region rdE16s1I pureE16s1I (gE16s1I gl j a b x) BR (by kernel_rfl) (by kernel_rfl) (fun n => BR.drawn _ n) BR.refl (fun _ _ _ => BR.trans) ?_ ?_ ?_
                      · intro i hi vs wA wB hG hR
                        match i, hi, hG with
                        | 0, _, hG => exact hG
                        | 1, _, hG => exact hG
                        | 2, _, hG => exact hG
                        | 3, _, hG => exact hG
                        | 4, _, hG => exact hG
                        | 5, _, hG => exact hG
                        | 6, _, hG => exact hG
                        | 7, _, hG => exact hG
                        | 8, _, hG => exact hG
                        | 9, _, hG => exact hG
                        | 10, _, _ => trivial
                        | 11, _, _ => trivial
                        | 12, _, hG => exact hG
                        | 13, _, _ => trivial
                        | 14, _, _ => trivial
                        | 15, _, _ => trivial
                        | 16, _, hG => exact hG
                        | 17, _, hG => exact hG
                        | 18, _, hG => exact hG
                        | 19, _, hG => exact hG
                        | 20, _, hG => exact hG
                        | 21, _, hG => exact hG
                        | 22, _, hG => exact hG
                        | 23, _, hG => exact hG
                        | 24, _, hG => exact hG
                        | 25, _, hG => exact hG
                        | 26, _, hG => exact hG
                        | 27, _, hG => exact hG
                        | 28, _, hG => exact hG
                        | 29, _, hG => exact hG
                        | 30, _, hG => exact hG
                        | 31, _, hG => exact hG
                        | 32, _, hG => exact hG
                        | 33, _, _ => trivial
                        | 34, _, _ => trivial
                        | 35, _, _ => trivial
                        | 36, _, _ => trivial
                        | 37, _, _ => trivial
                        | 38, _, _ => trivial
                        | 39, _, _ => trivial
                        | 40, _, hG => exact hG
                        | 41, _, hG => exact hG
                        | _ + 42, _, _ => trivial
                      · intro i op ho act wA hR hF hD
                        have sz : act.tmps.size = 196 := hF.size
                        match i, ho, hD with
                        | 0, ho, hD =>
                          cases ho
                          have e15 := slot_tmps (show slotOf act 15 = i64 0 from hF.slot 15 (by kernel_rfl))
                          refine rgw_val (wanted_none rfl) (i64 0) (by simp [go_sem, e15]) (BR.refl _) ?_
                          exact congrArg (fun v => [v]) (slotOf_same act 153 _ (by omega))
                        | 1, ho, hD =>
                          cases ho
                          have e153 := slot_tmps (List.cons.inj (hD 0 (by decide))).1
                          refine rgw_val (wanted_none rfl) (.bool false) (by simp [go_sem, e153]) (BR.refl _) ?_
                          exact congrArg (fun v => [v]) (slotOf_same act 154 _ (by omega))
                        | 2, ho, hD =>
                          cases ho
                          have e154 := slot_tmps (List.cons.inj (hD 1 (by decide))).1
                          refine rgw_val (wanted_none rfl) (.bool false) (by simp [go_sem, e154]) (BR.refl _) ?_
                          exact congrArg (fun v => [v]) (slotOf_same act 155 _ (by omega))
                        | 3, ho, hD =>
                          cases ho
                          have dj : slotOf act 155 = .bool false := (List.cons.inj (hD 2 (by decide))).1
                          have e17 := slot_tmps (show slotOf act 17 = i64 0 from hF.slot 17 (by kernel_rfl))
                          refine rgw_val (by rw [wanted_of (d := 155) rfl rfl dj]; rfl) (i64 0) (by simp [go_sem, e17]) (BR.refl _) ?_
                          exact congrArg (fun v => [v]) (slotOf_same act 156 _ (by omega))
                        | 4, ho, hD =>
                          cases ho
                          have dj : slotOf act 155 = .bool false := (List.cons.inj (hD 2 (by decide))).1
                          have e156 := slot_tmps (List.cons.inj (hD 3 (by decide))).1
                          refine rgw_val (by rw [wanted_of (d := 155) rfl rfl dj]; rfl) (.bool false) (by simp [go_sem, e156]) (BR.refl _) ?_
                          exact congrArg (fun v => [v]) (slotOf_same act 157 _ (by omega))
                        | 5, ho, hD =>
                          cases ho
                          have e155 := slot_tmps (List.cons.inj (hD 2 (by decide))).1
                          have e157 := slot_tmps (List.cons.inj (hD 4 (by decide))).1
                          refine rgw_val (wanted_none rfl) (.bool false) (by simp [go_sem, e155, e157]) (BR.refl _) ?_
                          exact congrArg (fun v => [v]) (slotOf_same act 158 _ (by omega))
                        | 6, ho, hD =>
                          cases ho
                          have e158 := slot_tmps (List.cons.inj (hD 5 (by decide))).1
                          refine rgw_val (wanted_none rfl) (.bool false) (by simp [go_sem, e158]) (BR.refl _) ?_
                          exact congrArg (fun v => [v]) (slotOf_same act 159 _ (by omega))
                        | 7, ho, hD =>
                          cases ho
                          have dj : slotOf act 159 = .bool false := (List.cons.inj (hD 6 (by decide))).1
                          have e13 := slot_tmps (show slotOf act 13 = i64 j from hF.slot 13 (by kernel_rfl))
                          refine rgw_val (by rw [wanted_of (d := 159) rfl rfl dj]; rfl) (i64 j) (by simp [go_sem, e13]) (BR.refl _) ?_
                          exact congrArg (fun v => [v]) (slotOf_same act 160 _ (by omega))
                        | 8, ho, hD =>
                          cases ho
                          have dj : slotOf act 159 = .bool false := (List.cons.inj (hD 6 (by decide))).1
                          have e160 := slot_tmps (List.cons.inj (hD 7 (by decide))).1
                          refine rgw_val (by rw [wanted_of (d := 159) rfl rfl dj]; rfl) (.bool false) (by simp [go_sem, e160, hlt2]) (BR.refl _) ?_
                          exact congrArg (fun v => [v]) (slotOf_same act 161 _ (by omega))
                        | 9, ho, hD =>
                          cases ho
                          have dj : slotOf act 159 = .bool false := (List.cons.inj (hD 6 (by decide))).1
                          have e161 := slot_tmps (List.cons.inj (hD 8 (by decide))).1
                          refine rgw_val (by rw [wanted_of (d := 159) rfl rfl dj]; rfl) (.bool false) (by simp [go_sem, e161]) (BR.refl _) ?_
                          exact congrArg (fun v => [v]) (slotOf_same act 162 _ (by omega))
                        | 10, ho, hD =>
                          cases ho
                          have dj : slotOf act 162 = .bool false := (List.cons.inj (hD 9 (by decide))).1
                          refine rgw_skip (by rw [wanted_of (d := 162) rfl rfl dj]; rfl) ?_
                          trivial
                        | 11, ho, hD =>
                          cases ho
                          have dj : slotOf act 162 = .bool false := (List.cons.inj (hD 9 (by decide))).1
                          refine rgw_skip (by rw [wanted_of (d := 162) rfl rfl dj]; rfl) ?_
                          trivial
                        | 12, ho, hD =>
                          cases ho
                          have dj : slotOf act 162 = .bool false := (List.cons.inj (hD 9 (by decide))).1
                          refine rgw_skip (by rw [wanted_of (d := 162) rfl rfl dj]; rfl) ?_
                          exact congrArg (fun v => [v]) (slotOf_same act 165 _ (by omega))
                        | 13, ho, hD =>
                          cases ho
                          have dj : slotOf act 165 = undef := (List.cons.inj (hD 12 (by decide))).1
                          refine rgw_skip (wanted_undef (d := 165) rfl rfl dj) ?_
                          trivial
                        | 14, ho, hD =>
                          cases ho
                          have dj : slotOf act 165 = undef := (List.cons.inj (hD 12 (by decide))).1
                          refine rgw_skip (wanted_undef (d := 165) rfl rfl dj) ?_
                          trivial
                        | 15, ho, hD =>
                          cases ho
                          have dj : slotOf act 162 = .bool false := (List.cons.inj (hD 9 (by decide))).1
                          refine rgw_skip (by rw [wanted_of (d := 162) rfl rfl dj]; rfl) ?_
                          trivial
                        | 16, ho, hD =>
                          cases ho
                          have dj : slotOf act 159 = .bool false := (List.cons.inj (hD 6 (by decide))).1
                          have e162 := slot_tmps (List.cons.inj (hD 9 (by decide))).1
                          refine rgw_val (by rw [wanted_of (d := 159) rfl rfl dj]; rfl) (.bool false) (by simp [go_sem, e162]) (BR.refl _) ?_
                          exact congrArg (fun v => [v]) (slotOf_same act 169 _ (by omega))
                        | 17, ho, hD =>
                          cases ho
                          have e159 := slot_tmps (List.cons.inj (hD 6 (by decide))).1
                          have e169 := slot_tmps (List.cons.inj (hD 16 (by decide))).1
                          refine rgw_val (wanted_none rfl) (.bool false) (by simp [go_sem, e159, e169]) (BR.refl _) ?_
                          exact congrArg (fun v => [v]) (slotOf_same act 170 _ (by omega))
                        | 18, ho, hD =>
                          cases ho
                          have e170 := slot_tmps (List.cons.inj (hD 17 (by decide))).1
                          refine rgw_val (wanted_none rfl) (.bool false) (by simp [go_sem, e170]) (BR.refl _) ?_
                          exact congrArg (fun v => [v]) (slotOf_same act 171 _ (by omega))
                        | 19, ho, hD =>
                          cases ho
                          have dj : slotOf act 171 = .bool false := (List.cons.inj (hD 18 (by decide))).1
                          have e14 := slot_tmps (show slotOf act 14 = .bool true from hF.slot 14 (by kernel_rfl))
                          refine rgw_val (by rw [wanted_of (d := 171) rfl rfl dj]; rfl) (.bool true) (by simp [go_sem, e14]) (BR.refl _) ?_
                          exact congrArg (fun v => [v]) (slotOf_same act 172 _ (by omega))
                        | 20, ho, hD =>
                          cases ho
                          have dj : slotOf act 171 = .bool false := (List.cons.inj (hD 18 (by decide))).1
                          have e172 := slot_tmps (List.cons.inj (hD 19 (by decide))).1
                          refine rgw_val (by rw [wanted_of (d := 171) rfl rfl dj]; rfl) (.bool true) (by simp [go_sem, e172]) (BR.refl _) ?_
                          exact congrArg (fun v => [v]) (slotOf_same act 173 _ (by omega))
                        | 21, ho, hD =>
                          cases ho
                          have dj : slotOf act 173 = .bool true := (List.cons.inj (hD 20 (by decide))).1
                          have e7 := slot_tmps (show slotOf act 7 = .pointer (some ⟨p, 0, none⟩) from hF.slot 7 (by kernel_rfl))
                          have hpA := (Below.block hR _ hpl11).trans hp11
                          have hpc := cells_of hpA
                          refine rgw_val (by rw [wanted_of (d := 173) rfl rfl dj]; rfl) (.agg #[i64 a, i64 b]) (by simp [go_sem, e7, hpc]) (BR.refl _) ?_
                          exact congrArg (fun v => [v]) (slotOf_same act 174 _ (by omega))
                        | 22, ho, hD =>
                          cases ho
                          have dj : slotOf act 173 = .bool true := (List.cons.inj (hD 20 (by decide))).1
                          have e11 := slot_tmps (show slotOf act 11 = .slice (some ⟨gl, 0, none⟩) 3 3 from hF.slot 11 (by kernel_rfl))
                          refine rgw_val (by rw [wanted_of (d := 173) rfl rfl dj]; rfl) (.slice (some ⟨gl, 0, none⟩) 3 3) (by simp [go_sem, e11]) (BR.refl _) ?_
                          exact congrArg (fun v => [v]) (slotOf_same act 175 _ (by omega))
                        | 23, ho, hD =>
                          cases ho
                          have dj : slotOf act 173 = .bool true := (List.cons.inj (hD 20 (by decide))).1
                          have e13 := slot_tmps (show slotOf act 13 = i64 j from hF.slot 13 (by kernel_rfl))
                          refine rgw_val (by rw [wanted_of (d := 173) rfl rfl dj]; rfl) (i64 j) (by simp [go_sem, e13]) (BR.refl _) ?_
                          exact congrArg (fun v => [v]) (slotOf_same act 176 _ (by omega))
                        | 24, ho, hD =>
                          cases ho
                          have dj : slotOf act 173 = .bool true := (List.cons.inj (hD 20 (by decide))).1
                          have e175 := slot_tmps (List.cons.inj (hD 22 (by decide))).1
                          have e176 := slot_tmps (List.cons.inj (hD 23 (by decide))).1
                          refine rgw_val (by rw [wanted_of (d := 173) rfl rfl dj]; rfl) (.pointer (some ⟨gl, j, none⟩)) (by simp [go_sem, e175, e176, higl]) (BR.refl _) ?_
                          exact congrArg (fun v => [v]) (slotOf_same act 177 _ (by omega))
                        | 25, ho, hD =>
                          cases ho
                          have dj : slotOf act 173 = .bool true := (List.cons.inj (hD 20 (by decide))).1
                          have e177 := slot_tmps (List.cons.inj (hD 24 (by decide))).1
                          have cxA := (Below.cell hR (p := ⟨gl, j, none⟩) hgl11l).trans cx11
                          refine rgw_val (by rw [wanted_of (d := 173) rfl rfl dj]; rfl) (i64 x) (by simp [go_sem, e177, cxA]) (BR.refl _) ?_
                          exact congrArg (fun v => [v]) (slotOf_same act 178 _ (by omega))
                        | 26, ho, hD =>
                          cases ho
                          have dj : slotOf act 173 = .bool true := (List.cons.inj (hD 20 (by decide))).1
                          have e174 := slot_tmps (List.cons.inj (hD 21 (by decide))).1
                          have e178 := slot_tmps (List.cons.inj (hD 25 (by decide))).1
                          refine rgw_call (by rw [wanted_of (d := 173) rfl rfl dj]; rfl) 30 #[.agg #[i64 a, i64 b], i64 x] (by simp [go_sem, e174, e178]) rfl ?_
                          refine (contains24_any _ _ _ _).mono ?_
                          rintro e wB ⟨rfl, hb⟩
                          rw [hIx]
                          exact ⟨_, rfl, hb, congrArg (fun v => [v]) (slotOf_same act 179 _ (by omega))⟩
                        | 27, ho, hD =>
                          cases ho
                          have dj : slotOf act 173 = .bool true := (List.cons.inj (hD 20 (by decide))).1
                          have e179 := slot_tmps (List.cons.inj (hD 26 (by decide))).1
                          refine rgw_val (by rw [wanted_of (d := 173) rfl rfl dj]; rfl) (.bool false) (by simp [go_sem, e179]) (BR.refl _) ?_
                          exact congrArg (fun v => [v]) (slotOf_same act 180 _ (by omega))
                        | 28, ho, hD =>
                          cases ho
                          have dj : slotOf act 171 = .bool false := (List.cons.inj (hD 18 (by decide))).1
                          have e173 := slot_tmps (List.cons.inj (hD 20 (by decide))).1
                          have e180 := slot_tmps (List.cons.inj (hD 27 (by decide))).1
                          refine rgw_val (by rw [wanted_of (d := 171) rfl rfl dj]; rfl) (.bool false) (by simp [go_sem, e173, e180]) (BR.refl _) ?_
                          exact congrArg (fun v => [v]) (slotOf_same act 181 _ (by omega))
                        | 29, ho, hD =>
                          cases ho
                          have e171 := slot_tmps (List.cons.inj (hD 18 (by decide))).1
                          have e181 := slot_tmps (List.cons.inj (hD 28 (by decide))).1
                          refine rgw_val (wanted_none rfl) (.bool false) (by simp [go_sem, e171, e181]) (BR.refl _) ?_
                          exact congrArg (fun v => [v]) (slotOf_same act 182 _ (by omega))
                        | 30, ho, hD =>
                          cases ho
                          have e182 := slot_tmps (List.cons.inj (hD 29 (by decide))).1
                          refine rgw_val (wanted_none rfl) (.bool false) (by simp [go_sem, e182]) (BR.refl _) ?_
                          exact congrArg (fun v => [v]) (slotOf_same act 183 _ (by omega))
                        | 31, ho, hD =>
                          cases ho
                          have dj : slotOf act 183 = .bool false := (List.cons.inj (hD 30 (by decide))).1
                          have e16 := slot_tmps (show slotOf act 16 = .bool false from hF.slot 16 (by kernel_rfl))
                          refine rgw_val (by rw [wanted_of (d := 183) rfl rfl dj]; rfl) (.bool false) (by simp [go_sem, e16]) (BR.refl _) ?_
                          exact congrArg (fun v => [v]) (slotOf_same act 184 _ (by omega))
                        | 32, ho, hD =>
                          cases ho
                          have dj : slotOf act 183 = .bool false := (List.cons.inj (hD 30 (by decide))).1
                          have e184 := slot_tmps (List.cons.inj (hD 31 (by decide))).1
                          refine rgw_val (by rw [wanted_of (d := 183) rfl rfl dj]; rfl) (.bool false) (by simp [go_sem, e184]) (BR.refl _) ?_
                          exact congrArg (fun v => [v]) (slotOf_same act 185 _ (by omega))
                        | 33, ho, hD =>
                          cases ho
                          have dj : slotOf act 185 = .bool false := (List.cons.inj (hD 32 (by decide))).1
                          refine rgw_skip (by rw [wanted_of (d := 185) rfl rfl dj]; rfl) ?_
                          trivial
                        | 34, ho, hD =>
                          cases ho
                          have dj : slotOf act 185 = .bool false := (List.cons.inj (hD 32 (by decide))).1
                          refine rgw_skip (by rw [wanted_of (d := 185) rfl rfl dj]; rfl) ?_
                          trivial
                        | 35, ho, hD =>
                          cases ho
                          have dj : slotOf act 185 = .bool false := (List.cons.inj (hD 32 (by decide))).1
                          refine rgw_skip (by rw [wanted_of (d := 185) rfl rfl dj]; rfl) ?_
                          trivial
                        | 36, ho, hD =>
                          cases ho
                          have dj : slotOf act 185 = .bool false := (List.cons.inj (hD 32 (by decide))).1
                          refine rgw_skip (by rw [wanted_of (d := 185) rfl rfl dj]; rfl) ?_
                          trivial
                        | 37, ho, hD =>
                          cases ho
                          have dj : slotOf act 185 = .bool false := (List.cons.inj (hD 32 (by decide))).1
                          refine rgw_skip (by rw [wanted_of (d := 185) rfl rfl dj]; rfl) ?_
                          trivial
                        | 38, ho, hD =>
                          cases ho
                          have dj : slotOf act 185 = .bool false := (List.cons.inj (hD 32 (by decide))).1
                          refine rgw_skip (by rw [wanted_of (d := 185) rfl rfl dj]; rfl) ?_
                          trivial
                        | 39, ho, hD =>
                          cases ho
                          have dj : slotOf act 185 = .bool false := (List.cons.inj (hD 32 (by decide))).1
                          refine rgw_skip (by rw [wanted_of (d := 185) rfl rfl dj]; rfl) ?_
                          trivial
                        | 40, ho, hD =>
                          cases ho
                          have dj : slotOf act 183 = .bool false := (List.cons.inj (hD 30 (by decide))).1
                          have e185 := slot_tmps (List.cons.inj (hD 32 (by decide))).1
                          refine rgw_val (by rw [wanted_of (d := 183) rfl rfl dj]; rfl) (.bool false) (by simp [go_sem, e185]) (BR.refl _) ?_
                          exact congrArg (fun v => [v]) (slotOf_same act 193 _ (by omega))
                        | 41, ho, hD =>
                          cases ho
                          have e183 := slot_tmps (List.cons.inj (hD 30 (by decide))).1
                          have e193 := slot_tmps (List.cons.inj (hD 40 (by decide))).1
                          refine rgw_val (wanted_none rfl) (.bool false) (by simp [go_sem, e183, e193]) (BR.refl _) ?_
                          exact congrArg (fun v => [v]) (slotOf_same act 194 _ (by omega))
                        | _ + 42, ho, _ => cases ho
                      · intro act wA hR hF hA
                        have f2 : slotOf act 2 = .pointer (some ⟨w.heap.size, 0, none⟩) := hF.slot 2 (by kernel_rfl)
                        have f4 : slotOf act 4 = .bool false := hF.slot 4 (by kernel_rfl)
                        have f5 : slotOf act 5 = i64 k := hF.slot 5 (by kernel_rfl)
                        have f6 : slotOf act 6 = i64 1 := hF.slot 6 (by kernel_rfl)
                        have f7 : slotOf act 7 = .pointer (some ⟨p, 0, none⟩) := hF.slot 7 (by kernel_rfl)
                        have f9 : slotOf act 9 = .pointer (some ⟨q, 0, none⟩) := hF.slot 9 (by kernel_rfl)
                        have f11 : slotOf act 11 = .slice (some ⟨gl, 0, none⟩) 3 3 := hF.slot 11 (by kernel_rfl)
                        have f12 : slotOf act 12 = .slice (some ⟨gm, 0, none⟩) 3 3 := hF.slot 12 (by kernel_rfl)
                        have f13 : slotOf act 13 = i64 j := hF.slot 13 (by kernel_rfl)
                        have f14 : slotOf act 14 = .bool true := hF.slot 14 (by kernel_rfl)
                        have f15 : slotOf act 15 = i64 0 := hF.slot 15 (by kernel_rfl)
                        have f16 : slotOf act 16 = .bool false := hF.slot 16 (by kernel_rfl)
                        have f17 : slotOf act 17 = i64 0 := hF.slot 17 (by kernel_rfl)
                        have f153 : slotOf act 153 = i64 0 := (List.cons.inj (hA 0 (by decide))).1
                        have f154 : slotOf act 154 = .bool false := (List.cons.inj (hA 1 (by decide))).1
                        have f155 : slotOf act 155 = .bool false := (List.cons.inj (hA 2 (by decide))).1
                        have f156 : slotOf act 156 = i64 0 := (List.cons.inj (hA 3 (by decide))).1
                        have f157 : slotOf act 157 = .bool false := (List.cons.inj (hA 4 (by decide))).1
                        have f158 : slotOf act 158 = .bool false := (List.cons.inj (hA 5 (by decide))).1
                        have f159 : slotOf act 159 = .bool false := (List.cons.inj (hA 6 (by decide))).1
                        have f160 : slotOf act 160 = i64 j := (List.cons.inj (hA 7 (by decide))).1
                        have f161 : slotOf act 161 = .bool false := (List.cons.inj (hA 8 (by decide))).1
                        have f162 : slotOf act 162 = .bool false := (List.cons.inj (hA 9 (by decide))).1
                        have f169 : slotOf act 169 = .bool false := (List.cons.inj (hA 16 (by decide))).1
                        have f170 : slotOf act 170 = .bool false := (List.cons.inj (hA 17 (by decide))).1
                        have f171 : slotOf act 171 = .bool false := (List.cons.inj (hA 18 (by decide))).1
                        have f172 : slotOf act 172 = .bool true := (List.cons.inj (hA 19 (by decide))).1
                        have f173 : slotOf act 173 = .bool true := (List.cons.inj (hA 20 (by decide))).1
                        have f174 : slotOf act 174 = .agg #[i64 a, i64 b] := (List.cons.inj (hA 21 (by decide))).1
                        have f175 : slotOf act 175 = .slice (some ⟨gl, 0, none⟩) 3 3 := (List.cons.inj (hA 22 (by decide))).1
                        have f176 : slotOf act 176 = i64 j := (List.cons.inj (hA 23 (by decide))).1
                        have f177 : slotOf act 177 = .pointer (some ⟨gl, j, none⟩) := (List.cons.inj (hA 24 (by decide))).1
                        have f178 : slotOf act 178 = i64 x := (List.cons.inj (hA 25 (by decide))).1
                        have f179 : slotOf act 179 = .bool true := (List.cons.inj (hA 26 (by decide))).1
                        have f180 : slotOf act 180 = .bool false := (List.cons.inj (hA 27 (by decide))).1
                        have f181 : slotOf act 181 = .bool false := (List.cons.inj (hA 28 (by decide))).1
                        have f182 : slotOf act 182 = .bool false := (List.cons.inj (hA 29 (by decide))).1
                        have f183 : slotOf act 183 = .bool false := (List.cons.inj (hA 30 (by decide))).1
                        have f184 : slotOf act 184 = .bool false := (List.cons.inj (hA 31 (by decide))).1
                        have f185 : slotOf act 185 = .bool false := (List.cons.inj (hA 32 (by decide))).1
                        have f193 : slotOf act 193 = .bool false := (List.cons.inj (hA 40 (by decide))).1
                        have f194 : slotOf act 194 = .bool false := (List.cons.inj (hA 41 (by decide))).1
                        rw [act_eta act 196 hF.size hF.defers]
                        simp only [show List.range 196 = [0, 1, 2, 3, 4, 5, 6, 7, 8, 9, 10, 11, 12, 13, 14, 15, 16, 17, 18, 19, 20, 21, 22, 23, 24, 25, 26, 27, 28, 29, 30, 31, 32, 33, 34, 35, 36, 37, 38, 39, 40, 41, 42, 43, 44, 45, 46, 47, 48, 49, 50, 51, 52, 53, 54, 55, 56, 57, 58, 59, 60, 61, 62, 63, 64, 65, 66, 67, 68, 69, 70, 71, 72, 73, 74, 75, 76, 77, 78, 79, 80, 81, 82, 83, 84, 85, 86, 87, 88, 89, 90, 91, 92, 93, 94, 95, 96, 97, 98, 99, 100, 101, 102, 103, 104, 105, 106, 107, 108, 109, 110, 111, 112, 113, 114, 115, 116, 117, 118, 119, 120, 121, 122, 123, 124, 125, 126, 127, 128, 129, 130, 131, 132, 133, 134, 135, 136, 137, 138, 139, 140, 141, 142, 143, 144, 145, 146, 147, 148, 149, 150, 151, 152, 153, 154, 155, 156, 157, 158, 159, 160, 161, 162, 163, 164, 165, 166, 167, 168, 169, 170, 171, 172, 173, 174, 175, 176, 177, 178, 179, 180, 181, 182, 183, 184, 185, 186, 187, 188, 189, 190, 191, 192, 193, 194, 195] from rfl, List.map_cons, List.map_nil, f2, f4, f5, f6, f7, f9, f11, f12, f13, f14, f15, f16, f17, f153, f154, f155, f156, f157, f158, f159, f160, f161, f162, f169, f170, f171, f172, f173, f174, f175, f176, f177, f178, f179, f180, f181, f182, f183, f184, f185, f193, f194]
                        clear hA hF f2 f4 f5 f6 f7 f9 f11 f12 f13 f14 f15 f16 f17 f153 f154 f155 f156 f157 f158 f159 f160 f161 f162 f169 f170 f171 f172 f173 f174 f175 f176 f177 f178 f179 f180 f181 f182 f183 f184 f185 f193 f194
                        have hb12 := hb11.trans (Below.mono hR hb11.size)
                        clear hR
                        go_wp2_with fail
                        refine ⟨⟨j + 1, by omega, rfl, rfl, rfl, rfl, rfl, rfl, rfl, rfl, rfl, rfl, congrArg (Value.int .i64) (Int.natCast_succ j).symm, hb12⟩, ?_⟩
                        show 3 - ((j : Int) + 1).toNat < 3 - (j : Int).toNat
                        omega
                    · skip
                      have hlt2 : decide ((j : Int) < 2) = false := by simp; omega
                      have hIx : inB x a b = true := inB_true (his3 rfl).1 (his3 rfl).2
                      have hIy : inB y u v = true := inB_true (hso3 rfl).1 (hso3 rfl).2
                      go_wp2_with fail
                      refine rg_region rdE16s1IS pureE16s1IS (gE16s1IS gl gm j a b u v x y) BR (by kernel_rfl) (by kernel_rfl) (fun n => BR.drawn _ n) BR.refl (fun _ _ _ => BR.trans) ?_ ?_ ?_
                      · intro i hi vs wA wB hG hR
                        match i, hi, hG with
                        | 0, _, hG => exact hG
                        | 1, _, hG => exact hG
                        | 2, _, hG => exact hG
                        | 3, _, hG => exact hG
                        | 4, _, hG => exact hG
                        | 5, _, hG => exact hG
                        | 6, _, hG => exact hG
                        | 7, _, hG => exact hG
                        | 8, _, hG => exact hG
                        | 9, _, hG => exact hG
                        | 10, _, _ => trivial
                        | 11, _, _ => trivial
                        | 12, _, hG => exact hG
                        | 13, _, _ => trivial
                        | 14, _, _ => trivial
                        | 15, _, _ => trivial
                        | 16, _, hG => exact hG
                        | 17, _, hG => exact hG
                        | 18, _, hG => exact hG
                        | 19, _, hG => exact hG
                        | 20, _, hG => exact hG
                        | 21, _, hG => exact hG
                        | 22, _, hG => exact hG
                        | 23, _, hG => exact hG
                        | 24, _, hG => exact hG
                        | 25, _, hG => exact hG
                        | 26, _, hG => exact hG
                        | 27, _, hG => exact hG
                        | 28, _, hG => exact hG
                        | 29, _, hG => exact hG
                        | 30, _, hG => exact hG
                        | 31, _, hG => exact hG
                        | 32, _, hG => exact hG
                        | 33, _, hG => exact hG
                        | 34, _, hG => exact hG
                        | 35, _, hG => exact hG
                        | 36, _, hG => exact hG
                        | 37, _, hG => exact hG
                        | 38, _, hG => exact hG
                        | 39, _, hG => exact hG
                        | 40, _, hG => exact hG
                        | 41, _, hG => exact hG
                        | _ + 42, _, _ => trivial
                      · intro i op ho act wA hR hF hD
                        have sz : act.tmps.size = 196 := hF.size
                        match i, ho, hD with
                        | 0, ho, hD =>
                          cases ho
                          have e15 := slot_tmps (show slotOf act 15 = i64 0 from hF.slot 15 (by kernel_rfl))
                          refine rgw_val (wanted_none rfl) (i64 0) (by simp [go_sem, e15]) (BR.refl _) ?_
                          exact congrArg (fun v => [v]) (slotOf_same act 153 _ (by omega))
                        | 1, ho, hD =>
                          cases ho
                          have e153 := slot_tmps (List.cons.inj (hD 0 (by decide))).1
                          refine rgw_val (wanted_none rfl) (.bool false) (by simp [go_sem, e153]) (BR.refl _) ?_
                          exact congrArg (fun v => [v]) (slotOf_same act 154 _ (by omega))
                        | 2, ho, hD =>
                          cases ho
                          have e154 := slot_tmps (List.cons.inj (hD 1 (by decide))).1
                          refine rgw_val (wanted_none rfl) (.bool false) (by simp [go_sem, e154]) (BR.refl _) ?_
                          exact congrArg (fun v => [v]) (slotOf_same act 155 _ (by omega))
                        | 3, ho, hD =>
                          cases ho
                          have dj : slotOf act 155 = .bool false := (List.cons.inj (hD 2 (by decide))).1
                          have e17 := slot_tmps (show slotOf act 17 = i64 0 from hF.slot 17 (by kernel_rfl))
                          refine rgw_val (by rw [wanted_of (d := 155) rfl rfl dj]; rfl) (i64 0) (by simp [go_sem, e17]) (BR.refl _) ?_
                          exact congrArg (fun v => [v]) (slotOf_same act 156 _ (by omega))
                        | 4, ho, hD =>
                          cases ho
                          have dj : slotOf act 155 = .bool false := (List.cons.inj (hD 2 (by decide))).1
                          have e156 := slot_tmps (List.cons.inj (hD 3 (by decide))).1
                          refine rgw_val (by rw [wanted_of (d := 155) rfl rfl dj]; rfl) (.bool false) (by simp [go_sem, e156]) (BR.refl _) ?_
                          exact congrArg (fun v => [v]) (slotOf_same act 157 _ (by omega))
                        | 5, ho, hD =>
                          cases ho
                          have e155 := slot_tmps (List.cons.inj (hD 2 (by decide))).1
                          have e157 := slot_tmps (List.cons.inj (hD 4 (by decide))).1
                          refine rgw_val (wanted_none rfl) (.bool false) (by simp [go_sem, e155, e157]) (BR.refl _) ?_
                          exact congrArg (fun v => [v]) (slotOf_same act 158 _ (by omega))
                        | 6, ho, hD =>
                          cases ho
                          have e158 := slot_tmps (List.cons.inj (hD 5 (by decide))).1
                          refine rgw_val (wanted_none rfl) (.bool false) (by simp [go_sem, e158]) (BR.refl _) ?_
                          exact congrArg (fun v => [v]) (slotOf_same act 159 _ (by omega))
                        | 7, ho, hD =>
                          cases ho
                          have dj : slotOf act 159 = .bool false := (List.cons.inj (hD 6 (by decide))).1
                          have e13 := slot_tmps (show slotOf act 13 = i64 j from hF.slot 13 (by kernel_rfl))
                          refine rgw_val (by rw [wanted_of (d := 159) rfl rfl dj]; rfl) (i64 j) (by simp [go_sem, e13]) (BR.refl _) ?_
                          exact congrArg (fun v => [v]) (slotOf_same act 160 _ (by omega))
                        | 8, ho, hD =>
                          cases ho
                          have dj : slotOf act 159 = .bool false := (List.cons.inj (hD 6 (by decide))).1
                          have e160 := slot_tmps (List.cons.inj (hD 7 (by decide))).1
                          refine rgw_val (by rw [wanted_of (d := 159) rfl rfl dj]; rfl) (.bool false) (by simp [go_sem, e160, hlt2]) (BR.refl _) ?_
                          exact congrArg (fun v => [v]) (slotOf_same act 161 _ (by omega))
                        | 9, ho, hD =>
                          cases ho
                          have dj : slotOf act 159 = .bool false := (List.cons.inj (hD 6 (by decide))).1
                          have e161 := slot_tmps (List.cons.inj (hD 8 (by decide))).1
                          refine rgw_val (by rw [wanted_of (d := 159) rfl rfl dj]; rfl) (.bool false) (by simp [go_sem, e161]) (BR.refl _) ?_
                          exact congrArg (fun v => [v]) (slotOf_same act 162 _ (by omega))
                        | 10, ho, hD =>
                          cases ho
                          have dj : slotOf act 162 = .bool false := (List.cons.inj (hD 9 (by decide))).1
                          refine rgw_skip (by rw [wanted_of (d := 162) rfl rfl dj]; rfl) ?_
                          trivial
                        | 11, ho, hD =>
                          cases ho
                          have dj : slotOf act 162 = .bool false := (List.cons.inj (hD 9 (by decide))).1
                          refine rgw_skip (by rw [wanted_of (d := 162) rfl rfl dj]; rfl) ?_
                          trivial
                        | 12, ho, hD =>
                          cases ho
                          have dj : slotOf act 162 = .bool false := (List.cons.inj (hD 9 (by decide))).1
                          refine rgw_skip (by rw [wanted_of (d := 162) rfl rfl dj]; rfl) ?_
                          exact congrArg (fun v => [v]) (slotOf_same act 165 _ (by omega))
                        | 13, ho, hD =>
                          cases ho
                          have dj : slotOf act 165 = undef := (List.cons.inj (hD 12 (by decide))).1
                          refine rgw_skip (wanted_undef (d := 165) rfl rfl dj) ?_
                          trivial
                        | 14, ho, hD =>
                          cases ho
                          have dj : slotOf act 165 = undef := (List.cons.inj (hD 12 (by decide))).1
                          refine rgw_skip (wanted_undef (d := 165) rfl rfl dj) ?_
                          trivial
                        | 15, ho, hD =>
                          cases ho
                          have dj : slotOf act 162 = .bool false := (List.cons.inj (hD 9 (by decide))).1
                          refine rgw_skip (by rw [wanted_of (d := 162) rfl rfl dj]; rfl) ?_
                          trivial
                        | 16, ho, hD =>
                          cases ho
                          have dj : slotOf act 159 = .bool false := (List.cons.inj (hD 6 (by decide))).1
                          have e162 := slot_tmps (List.cons.inj (hD 9 (by decide))).1
                          refine rgw_val (by rw [wanted_of (d := 159) rfl rfl dj]; rfl) (.bool false) (by simp [go_sem, e162]) (BR.refl _) ?_
                          exact congrArg (fun v => [v]) (slotOf_same act 169 _ (by omega))
                        | 17, ho, hD =>
                          cases ho
                          have e159 := slot_tmps (List.cons.inj (hD 6 (by decide))).1
                          have e169 := slot_tmps (List.cons.inj (hD 16 (by decide))).1
                          refine rgw_val (wanted_none rfl) (.bool false) (by simp [go_sem, e159, e169]) (BR.refl _) ?_
                          exact congrArg (fun v => [v]) (slotOf_same act 170 _ (by omega))
                        | 18, ho, hD =>
                          cases ho
                          have e170 := slot_tmps (List.cons.inj (hD 17 (by decide))).1
                          refine rgw_val (wanted_none rfl) (.bool false) (by simp [go_sem, e170]) (BR.refl _) ?_
                          exact congrArg (fun v => [v]) (slotOf_same act 171 _ (by omega))
                        | 19, ho, hD =>
                          cases ho
                          have dj : slotOf act 171 = .bool false := (List.cons.inj (hD 18 (by decide))).1
                          have e14 := slot_tmps (show slotOf act 14 = .bool true from hF.slot 14 (by kernel_rfl))
                          refine rgw_val (by rw [wanted_of (d := 171) rfl rfl dj]; rfl) (.bool true) (by simp [go_sem, e14]) (BR.refl _) ?_
                          exact congrArg (fun v => [v]) (slotOf_same act 172 _ (by omega))
                        | 20, ho, hD =>
                          cases ho
                          have dj : slotOf act 171 = .bool false := (List.cons.inj (hD 18 (by decide))).1
                          have e172 := slot_tmps (List.cons.inj (hD 19 (by decide))).1
                          refine rgw_val (by rw [wanted_of (d := 171) rfl rfl dj]; rfl) (.bool true) (by simp [go_sem, e172]) (BR.refl _) ?_
                          exact congrArg (fun v => [v]) (slotOf_same act 173 _ (by omega))
                        | 21, ho, hD =>
                          cases ho
                          have dj : slotOf act 173 = .bool true := (List.cons.inj (hD 20 (by decide))).1
                          have e7 := slot_tmps (show slotOf act 7 = .pointer (some ⟨p, 0, none⟩) from hF.slot 7 (by kernel_rfl))
                          have hpA := (Below.block hR _ hpl11).trans hp11
                          have hpc := cells_of hpA
                          refine rgw_val (by rw [wanted_of (d := 173) rfl rfl dj]; rfl) (.agg #[i64 a, i64 b]) (by simp [go_sem, e7, hpc]) (BR.refl _) ?_
                          exact congrArg (fun v => [v]) (slotOf_same act 174 _ (by omega))
                        | 22, ho, hD =>
                          cases ho
                          have dj : slotOf act 173 = .bool true := (List.cons.inj (hD 20 (by decide))).1
                          have e11 := slot_tmps (show slotOf act 11 = .slice (some ⟨gl, 0, none⟩) 3 3 from hF.slot 11 (by kernel_rfl))
                          refine rgw_val (by rw [wanted_of (d := 173) rfl rfl dj]; rfl) (.slice (some ⟨gl, 0, none⟩) 3 3) (by simp [go_sem, e11]) (BR.refl _) ?_
                          exact congrArg (fun v => [v]) (slotOf_same act 175 _ (by omega))
                        | 23, ho, hD =>
                          cases ho
                          have dj : slotOf act 173 = .bool true := (List.cons.inj (hD 20 (by decide))).1
                          have e13 := slot_tmps (show slotOf act 13 = i64 j from hF.slot 13 (by kernel_rfl))
                          refine rgw_val (by rw [wanted_of (d := 173) rfl rfl dj]; rfl) (i64 j) (by simp [go_sem, e13]) (BR.refl _) ?_
                          exact congrArg (fun v => [v]) (slotOf_same act 176 _ (by omega))
                        | 24, ho, hD =>
                          cases ho
                          have dj : slotOf act 173 = .bool true := (List.cons.inj (hD 20 (by decide))).1
                          have e175 := slot_tmps (List.cons.inj (hD 22 (by decide))).1
                          have e176 := slot_tmps (List.cons.inj (hD 23 (by decide))).1
                          refine rgw_val (by rw [wanted_of (d := 173) rfl rfl dj]; rfl) (.pointer (some ⟨gl, j, none⟩)) (by simp [go_sem, e175, e176, higl]) (BR.refl _) ?_
                          exact congrArg (fun v => [v]) (slotOf_same act 177 _ (by omega))
                        | 25, ho, hD =>
                          cases ho
                          have dj : slotOf act 173 = .bool true := (List.cons.inj (hD 20 (by decide))).1
                          have e177 := slot_tmps (List.cons.inj (hD 24 (by decide))).1
                          have cxA := (Below.cell hR (p := ⟨gl, j, none⟩) hgl11l).trans cx11
                          refine rgw_val (by rw [wanted_of (d := 173) rfl rfl dj]; rfl) (i64 x) (by simp [go_sem, e177, cxA]) (BR.refl _) ?_
                          exact congrArg (fun v => [v]) (slotOf_same act 178 _ (by omega))
                        | 26, ho, hD =>
                          cases ho
                          have dj : slotOf act 173 = .bool true := (List.cons.inj (hD 20 (by decide))).1
                          have e174 := slot_tmps (List.cons.inj (hD 21 (by decide))).1
                          have e178 := slot_tmps (List.cons.inj (hD 25 (by decide))).1
                          refine rgw_call (by rw [wanted_of (d := 173) rfl rfl dj]; rfl) 30 #[.agg #[i64 a, i64 b], i64 x] (by simp [go_sem, e174, e178]) rfl ?_
                          refine (contains24_any _ _ _ _).mono ?_
                          rintro e wB ⟨rfl, hb⟩
                          rw [hIx]
                          exact ⟨_, rfl, hb, congrArg (fun v => [v]) (slotOf_same act 179 _ (by omega))⟩
                        | 27, ho, hD =>
                          cases ho
                          have dj : slotOf act 173 = .bool true := (List.cons.inj (hD 20 (by decide))).1
                          have e179 := slot_tmps (List.cons.inj (hD 26 (by decide))).1
                          refine rgw_val (by rw [wanted_of (d := 173) rfl rfl dj]; rfl) (.bool false) (by simp [go_sem, e179]) (BR.refl _) ?_
                          exact congrArg (fun v => [v]) (slotOf_same act 180 _ (by omega))
                        | 28, ho, hD =>
                          cases ho
                          have dj : slotOf act 171 = .bool false := (List.cons.inj (hD 18 (by decide))).1
                          have e173 := slot_tmps (List.cons.inj (hD 20 (by decide))).1
                          have e180 := slot_tmps (List.cons.inj (hD 27 (by decide))).1
                          refine rgw_val (by rw [wanted_of (d := 171) rfl rfl dj]; rfl) (.bool false) (by simp [go_sem, e173, e180]) (BR.refl _) ?_
                          exact congrArg (fun v => [v]) (slotOf_same act 181 _ (by omega))
                        | 29, ho, hD =>
                          cases ho
                          have e171 := slot_tmps (List.cons.inj (hD 18 (by decide))).1
                          have e181 := slot_tmps (List.cons.inj (hD 28 (by decide))).1
                          refine rgw_val (wanted_none rfl) (.bool false) (by simp [go_sem, e171, e181]) (BR.refl _) ?_
                          exact congrArg (fun v => [v]) (slotOf_same act 182 _ (by omega))
                        | 30, ho, hD =>
                          cases ho
                          have e182 := slot_tmps (List.cons.inj (hD 29 (by decide))).1
                          refine rgw_val (wanted_none rfl) (.bool false) (by simp [go_sem, e182]) (BR.refl _) ?_
                          exact congrArg (fun v => [v]) (slotOf_same act 183 _ (by omega))
                        | 31, ho, hD =>
                          cases ho
                          have dj : slotOf act 183 = .bool false := (List.cons.inj (hD 30 (by decide))).1
                          have e16 := slot_tmps (show slotOf act 16 = .bool true from hF.slot 16 (by kernel_rfl))
                          refine rgw_val (by rw [wanted_of (d := 183) rfl rfl dj]; rfl) (.bool true) (by simp [go_sem, e16]) (BR.refl _) ?_
                          exact congrArg (fun v => [v]) (slotOf_same act 184 _ (by omega))
                        | 32, ho, hD =>
                          cases ho
                          have dj : slotOf act 183 = .bool false := (List.cons.inj (hD 30 (by decide))).1
                          have e184 := slot_tmps (List.cons.inj (hD 31 (by decide))).1
                          refine rgw_val (by rw [wanted_of (d := 183) rfl rfl dj]; rfl) (.bool true) (by simp [go_sem, e184]) (BR.refl _) ?_
                          exact congrArg (fun v => [v]) (slotOf_same act 185 _ (by omega))
                        | 33, ho, hD =>
                          cases ho
                          have dj : slotOf act 185 = .bool true := (List.cons.inj (hD 32 (by decide))).1
                          have e9 := slot_tmps (show slotOf act 9 = .pointer (some ⟨q, 0, none⟩) from hF.slot 9 (by kernel_rfl))
                          have hqA := (Below.block hR _ hql11).trans hq11
                          have hqc := cells_of hqA
                          refine rgw_val (by rw [wanted_of (d := 185) rfl rfl dj]; rfl) (.agg #[i64 u, i64 v]) (by simp [go_sem, e9, hqc]) (BR.refl _) ?_
                          exact congrArg (fun v => [v]) (slotOf_same act 186 _ (by omega))
                        | 34, ho, hD =>
                          cases ho
                          have dj : slotOf act 185 = .bool true := (List.cons.inj (hD 32 (by decide))).1
                          have e12 := slot_tmps (show slotOf act 12 = .slice (some ⟨gm, 0, none⟩) 3 3 from hF.slot 12 (by kernel_rfl))
                          refine rgw_val (by rw [wanted_of (d := 185) rfl rfl dj]; rfl) (.slice (some ⟨gm, 0, none⟩) 3 3) (by simp [go_sem, e12]) (BR.refl _) ?_
                          exact congrArg (fun v => [v]) (slotOf_same act 187 _ (by omega))
                        | 35, ho, hD =>
                          cases ho
                          have dj : slotOf act 185 = .bool true := (List.cons.inj (hD 32 (by decide))).1
                          have e13 := slot_tmps (show slotOf act 13 = i64 j from hF.slot 13 (by kernel_rfl))
                          refine rgw_val (by rw [wanted_of (d := 185) rfl rfl dj]; rfl) (i64 j) (by simp [go_sem, e13]) (BR.refl _) ?_
                          exact congrArg (fun v => [v]) (slotOf_same act 188 _ (by omega))
                        | 36, ho, hD =>
                          cases ho
                          have dj : slotOf act 185 = .bool true := (List.cons.inj (hD 32 (by decide))).1
                          have e187 := slot_tmps (List.cons.inj (hD 34 (by decide))).1
                          have e188 := slot_tmps (List.cons.inj (hD 35 (by decide))).1
                          refine rgw_val (by rw [wanted_of (d := 185) rfl rfl dj]; rfl) (.pointer (some ⟨gm, j, none⟩)) (by simp [go_sem, e187, e188, higm]) (BR.refl _) ?_
                          exact congrArg (fun v => [v]) (slotOf_same act 189 _ (by omega))
                        | 37, ho, hD =>
                          cases ho
                          have dj : slotOf act 185 = .bool true := (List.cons.inj (hD 32 (by decide))).1
                          have e189 := slot_tmps (List.cons.inj (hD 36 (by decide))).1
                          have cyA := (Below.cell hR (p := ⟨gm, j, none⟩) hgm11l).trans cy11
                          refine rgw_val (by rw [wanted_of (d := 185) rfl rfl dj]; rfl) (i64 y) (by simp [go_sem, e189, cyA]) (BR.refl _) ?_
                          exact congrArg (fun v => [v]) (slotOf_same act 190 _ (by omega))
                        | 38, ho, hD =>
                          cases ho
                          have dj : slotOf act 185 = .bool true := (List.cons.inj (hD 32 (by decide))).1
                          have e186 := slot_tmps (List.cons.inj (hD 33 (by decide))).1
                          have e190 := slot_tmps (List.cons.inj (hD 37 (by decide))).1
                          refine rgw_call (by rw [wanted_of (d := 185) rfl rfl dj]; rfl) 30 #[.agg #[i64 u, i64 v], i64 y] (by simp [go_sem, e186, e190]) rfl ?_
                          refine (contains24_any _ _ _ _).mono ?_
                          rintro e wB ⟨rfl, hb⟩
                          rw [hIy]
                          exact ⟨_, rfl, hb, congrArg (fun v => [v]) (slotOf_same act 191 _ (by omega))⟩
                        | 39, ho, hD =>
                          cases ho
                          have dj : slotOf act 185 = .bool true := (List.cons.inj (hD 32 (by decide))).1
                          have e191 := slot_tmps (List.cons.inj (hD 38 (by decide))).1
                          refine rgw_val (by rw [wanted_of (d := 185) rfl rfl dj]; rfl) (.bool false) (by simp [go_sem, e191]) (BR.refl _) ?_
                          exact congrArg (fun v => [v]) (slotOf_same act 192 _ (by omega))
                        | 40, ho, hD =>
                          cases ho
                          have dj : slotOf act 183 = .bool false := (List.cons.inj (hD 30 (by decide))).1
                          have e185 := slot_tmps (List.cons.inj (hD 32 (by decide))).1
                          have e192 := slot_tmps (List.cons.inj (hD 39 (by decide))).1
                          refine rgw_val (by rw [wanted_of (d := 183) rfl rfl dj]; rfl) (.bool false) (by simp [go_sem, e185, e192]) (BR.refl _) ?_
                          exact congrArg (fun v => [v]) (slotOf_same act 193 _ (by omega))
                        | 41, ho, hD =>
                          cases ho
                          have e183 := slot_tmps (List.cons.inj (hD 30 (by decide))).1
                          have e193 := slot_tmps (List.cons.inj (hD 40 (by decide))).1
                          refine rgw_val (wanted_none rfl) (.bool false) (by simp [go_sem, e183, e193]) (BR.refl _) ?_
                          exact congrArg (fun v => [v]) (slotOf_same act 194 _ (by omega))
                        | _ + 42, ho, _ => cases ho
                      · intro act wA hR hF hA
                        have f2 : slotOf act 2 = .pointer (some ⟨w.heap.size, 0, none⟩) := hF.slot 2 (by kernel_rfl)
                        have f4 : slotOf act 4 = .bool false := hF.slot 4 (by kernel_rfl)
                        have f5 : slotOf act 5 = i64 k := hF.slot 5 (by kernel_rfl)
                        have f6 : slotOf act 6 = i64 1 := hF.slot 6 (by kernel_rfl)
                        have f7 : slotOf act 7 = .pointer (some ⟨p, 0, none⟩) := hF.slot 7 (by kernel_rfl)
                        have f9 : slotOf act 9 = .pointer (some ⟨q, 0, none⟩) := hF.slot 9 (by kernel_rfl)
                        have f11 : slotOf act 11 = .slice (some ⟨gl, 0, none⟩) 3 3 := hF.slot 11 (by kernel_rfl)
                        have f12 : slotOf act 12 = .slice (some ⟨gm, 0, none⟩) 3 3 := hF.slot 12 (by kernel_rfl)
                        have f13 : slotOf act 13 = i64 j := hF.slot 13 (by kernel_rfl)
                        have f14 : slotOf act 14 = .bool true := hF.slot 14 (by kernel_rfl)
                        have f15 : slotOf act 15 = i64 0 := hF.slot 15 (by kernel_rfl)
                        have f16 : slotOf act 16 = .bool true := hF.slot 16 (by kernel_rfl)
                        have f17 : slotOf act 17 = i64 0 := hF.slot 17 (by kernel_rfl)
                        have f153 : slotOf act 153 = i64 0 := (List.cons.inj (hA 0 (by decide))).1
                        have f154 : slotOf act 154 = .bool false := (List.cons.inj (hA 1 (by decide))).1
                        have f155 : slotOf act 155 = .bool false := (List.cons.inj (hA 2 (by decide))).1
                        have f156 : slotOf act 156 = i64 0 := (List.cons.inj (hA 3 (by decide))).1
                        have f157 : slotOf act 157 = .bool false := (List.cons.inj (hA 4 (by decide))).1
                        have f158 : slotOf act 158 = .bool false := (List.cons.inj (hA 5 (by decide))).1
                        have f159 : slotOf act 159 = .bool false := (List.cons.inj (hA 6 (by decide))).1
                        have f160 : slotOf act 160 = i64 j := (List.cons.inj (hA 7 (by decide))).1
                        have f161 : slotOf act 161 = .bool false := (List.cons.inj (hA 8 (by decide))).1
                        have f162 : slotOf act 162 = .bool false := (List.cons.inj (hA 9 (by decide))).1
                        have f169 : slotOf act 169 = .bool false := (List.cons.inj (hA 16 (by decide))).1
                        have f170 : slotOf act 170 = .bool false := (List.cons.inj (hA 17 (by decide))).1
                        have f171 : slotOf act 171 = .bool false := (List.cons.inj (hA 18 (by decide))).1
                        have f172 : slotOf act 172 = .bool true := (List.cons.inj (hA 19 (by decide))).1
                        have f173 : slotOf act 173 = .bool true := (List.cons.inj (hA 20 (by decide))).1
                        have f174 : slotOf act 174 = .agg #[i64 a, i64 b] := (List.cons.inj (hA 21 (by decide))).1
                        have f175 : slotOf act 175 = .slice (some ⟨gl, 0, none⟩) 3 3 := (List.cons.inj (hA 22 (by decide))).1
                        have f176 : slotOf act 176 = i64 j := (List.cons.inj (hA 23 (by decide))).1
                        have f177 : slotOf act 177 = .pointer (some ⟨gl, j, none⟩) := (List.cons.inj (hA 24 (by decide))).1
                        have f178 : slotOf act 178 = i64 x := (List.cons.inj (hA 25 (by decide))).1
                        have f179 : slotOf act 179 = .bool true := (List.cons.inj (hA 26 (by decide))).1
                        have f180 : slotOf act 180 = .bool false := (List.cons.inj (hA 27 (by decide))).1
                        have f181 : slotOf act 181 = .bool false := (List.cons.inj (hA 28 (by decide))).1
                        have f182 : slotOf act 182 = .bool false := (List.cons.inj (hA 29 (by decide))).1
                        have f183 : slotOf act 183 = .bool false := (List.cons.inj (hA 30 (by decide))).1
                        have f184 : slotOf act 184 = .bool true := (List.cons.inj (hA 31 (by decide))).1
                        have f185 : slotOf act 185 = .bool true := (List.cons.inj (hA 32 (by decide))).1
                        have f186 : slotOf act 186 = .agg #[i64 u, i64 v] := (List.cons.inj (hA 33 (by decide))).1
                        have f187 : slotOf act 187 = .slice (some ⟨gm, 0, none⟩) 3 3 := (List.cons.inj (hA 34 (by decide))).1
                        have f188 : slotOf act 188 = i64 j := (List.cons.inj (hA 35 (by decide))).1
                        have f189 : slotOf act 189 = .pointer (some ⟨gm, j, none⟩) := (List.cons.inj (hA 36 (by decide))).1
                        have f190 : slotOf act 190 = i64 y := (List.cons.inj (hA 37 (by decide))).1
                        have f191 : slotOf act 191 = .bool true := (List.cons.inj (hA 38 (by decide))).1
                        have f192 : slotOf act 192 = .bool false := (List.cons.inj (hA 39 (by decide))).1
                        have f193 : slotOf act 193 = .bool false := (List.cons.inj (hA 40 (by decide))).1
                        have f194 : slotOf act 194 = .bool false := (List.cons.inj (hA 41 (by decide))).1
                        rw [act_eta act 196 hF.size hF.defers]
                        simp only [show List.range 196 = [0, 1, 2, 3, 4, 5, 6, 7, 8, 9, 10, 11, 12, 13, 14, 15, 16, 17, 18, 19, 20, 21, 22, 23, 24, 25, 26, 27, 28, 29, 30, 31, 32, 33, 34, 35, 36, 37, 38, 39, 40, 41, 42, 43, 44, 45, 46, 47, 48, 49, 50, 51, 52, 53, 54, 55, 56, 57, 58, 59, 60, 61, 62, 63, 64, 65, 66, 67, 68, 69, 70, 71, 72, 73, 74, 75, 76, 77, 78, 79, 80, 81, 82, 83, 84, 85, 86, 87, 88, 89, 90, 91, 92, 93, 94, 95, 96, 97, 98, 99, 100, 101, 102, 103, 104, 105, 106, 107, 108, 109, 110, 111, 112, 113, 114, 115, 116, 117, 118, 119, 120, 121, 122, 123, 124, 125, 126, 127, 128, 129, 130, 131, 132, 133, 134, 135, 136, 137, 138, 139, 140, 141, 142, 143, 144, 145, 146, 147, 148, 149, 150, 151, 152, 153, 154, 155, 156, 157, 158, 159, 160, 161, 162, 163, 164, 165, 166, 167, 168, 169, 170, 171, 172, 173, 174, 175, 176, 177, 178, 179, 180, 181, 182, 183, 184, 185, 186, 187, 188, 189, 190, 191, 192, 193, 194, 195] from rfl, List.map_cons, List.map_nil, f2, f4, f5, f6, f7, f9, f11, f12, f13, f14, f15, f16, f17, f153, f154, f155, f156, f157, f158, f159, f160, f161, f162, f169, f170, f171, f172, f173, f174, f175, f176, f177, f178, f179, f180, f181, f182, f183, f184, f185, f186, f187, f188, f189, f190, f191, f192, f193, f194]
                        clear hA hF f2 f4 f5 f6 f7 f9 f11 f12 f13 f14 f15 f16 f17 f153 f154 f155 f156 f157 f158 f159 f160 f161 f162 f169 f170 f171 f172 f173 f174 f175 f176 f177 f178 f179 f180 f181 f182 f183 f184 f185 f186 f187 f188 f189 f190 f191 f192 f193 f194
                        have hb12 := hb11.trans (Below.mono hR hb11.size)
                        clear hR
                        go_wp2_with fail
                        refine ⟨⟨j + 1, by omega, rfl, rfl, rfl, rfl, rfl, rfl, rfl, rfl, rfl, rfl, congrArg (Value.int .i64) (Int.natCast_succ j).symm, hb12⟩, ?_⟩
                        show 3 - ((j : Int) + 1).toNat < 3 - (j : Int).toNat
                        omega
            · obtain rfl : j = 3 := by omega
              have hG9 := hG8.below hb9
              go_wp2_with (go_at_call 18; refine (moored_any _ hG9).mono ?_; rintro e w10 ⟨rfl, hb10⟩)
              go_ret
              exact ⟨rfl, ha8.trans ((hb9.mono ha8.size).trans (hb10.mono (Nat.le_trans ha8.size hb9.size)))⟩
end Go.Proofs.YtkbmpkdflgimmaaDoor
