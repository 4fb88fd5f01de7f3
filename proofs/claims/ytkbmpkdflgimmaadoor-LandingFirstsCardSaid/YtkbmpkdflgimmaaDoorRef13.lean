/- The reference's First and Both. (Printed by genref13.py.) -/
import Derived.Test.YtkbmpkdflgimmaaDoorRef11
namespace Go.Proofs.YtkbmpkdflgimmaaDoor
open Go.RowKit Go.Shelf

theorem lands92_v {B : Book} {v : Value} {w : World} (hB : BookV w v B) {lb lc : Nat} {la : Option Addr} (hC : CansAt w.heap.size w lb 0 la (cansB B)) (hV : Vld B) (hcc : ∃ f, CC B [] f) {s hr ld : Int} (hs : inB s 0 1 = true) (h0 : 0 ≤ hr) (h1 : hr < B.tides.length) (l0 : 0 ≤ ld) (l1 : ld ≤ 200) :
    Calls Tryd.prog 92 #[v, .slice la (cansB B).length lc, i64 s, i64 hr, i64 ld] w (fun e w' => e = .returned (i64 (kindB B s hr ld)) ∧ Below w.heap.size w w') := by
  have hss : s = 0 ∨ s = 1 := by have h := inB_iff.1 hs; omega
  obtain ⟨tb, tq, ta, tc, sb, sq, sa, sc, rfl, hT, hS⟩ := hB
  have hB : BookV w (bookVal B ta tc sa sc) B := ⟨tb, tq, ta, tc, sb, sq, sa, sc, rfl, hT, hS⟩
  rcases hss with rfl | rfl
  · exact landsRef0_any B ta tc sa sc lb la lc hr ld w hB hC hV hcc h0 h1 l0 (by omega)
  · exact landsRef1_any B ta tc sa sc lb la lc hr ld w hB hC hV hcc h0 h1 l0 (by omega)
section
variable {B : Book} {s ld : Int}
theorem firstR_n (h : askF s ld = false) : Hid (firstR B s ld = (0, askE B false)) := Lib.hid (by
  have := ask_false_ne B
  unfold firstR
  rw [h, if_neg (by simpa using this)])
theorem firstR_f0 (h : inB s 0 1 = false) : Hid (firstR B s ld = (0, askE B false)) := firstR_n (by simp [askF, h])
theorem firstR_f1 (h : inB ld 0 200 = false) : Hid (firstR B s ld = (0, askE B false)) := firstR_n (by simp [askF, h])
theorem firstR_e (h0 : inB s 0 1 = true) (h1 : inB ld 0 200 = true) (ha : ¬ askE B true = 0) : Hid (firstR B s ld = (0, askE B true)) := Lib.hid (by
  have h : askF s ld = true := by simp [askF, h0, h1]
  unfold firstR
  rw [h, if_neg ha])
theorem firstR_o (h0 : inB s 0 1 = true) (h1 : inB ld 0 200 = true) (ha : askE B true = 0) : Hid (firstR B s ld = firstO ((List.range B.tides.length).find? fun (h : Nat) => sureB B s h ld)) := Lib.hid (by
  have h : askF s ld = true := by simp [askF, h0, h1]
  unfold firstR
  rw [h, if_pos ha])
theorem firstO_at {n : Nat} (hn : n < B.tides.length) (h : sureB B s n ld = true) (hno : ∀ j : Nat, j < n → sureB B s j ld = false) : firstO ((List.range B.tides.length).find? fun (h : Nat) => sureB B s h ld) = ((n : Int), 0) := by
  rw [List.find?_range_eq_some.2 ⟨h, List.mem_range.2 hn, fun j hj => by rw [hno j hj]; rfl⟩]
  rfl
theorem firstO_none (hno : ∀ j : Nat, j < B.tides.length → sureB B s j ld = false) : firstO ((List.range B.tides.length).find? fun (h : Nat) => sureB B s h ld) = (0, 4) := by
  rw [List.find?_range_eq_none.2 (fun j hj => by rw [hno j hj]; rfl)]
  rfl
theorem first_next {n : Nat} (hno : ∀ j : Nat, j < n → sureB B s j ld = false) (h : sureB B s n ld = false) : ∀ j : Nat, j < n + 1 → sureB B s j ld = false := fun j hj => by
  by_cases hjn : j = n
  · rw [hjn]; exact h
  · exact hno j (by omega)
theorem bothR_f0 (h : inB ld 0 200 = false) : Hid (bothR B ld = ([], askE B false)) := Lib.hid (by
  have := ask_false_ne B
  unfold bothR
  rw [h, if_neg (by simpa using this)])
theorem bothR_e (h : inB ld 0 200 = true) (ha : ¬ askE B true = 0) : Hid (bothR B ld = ([], askE B true)) := Lib.hid (by
  unfold bothR
  rw [h, if_neg ha])
theorem bothR_o (h : inB ld 0 200 = true) (ha : askE B true = 0) : Hid (bothR B ld = (bothL B ld B.tides.length, 0)) := Lib.hid (by
  unfold bothR
  rw [h, if_pos ha])
end
def FiIR (w : World) (B : Book) (s ld : Int) (la : Option Addr) (lc : Nat) (W0 : World) (a : Act) (W : World) : Prop := ∃ n : Nat, n ≤ B.tides.length ∧ a.tmps.size = 40 ∧ a.defers = [] ∧ slotOf a 1 = i64 s ∧ slotOf a 2 = i64 ld ∧ slotOf a 3 = .pointer (some ⟨w.heap.size, 0, none⟩) ∧ slotOf a 8 = .slice la (cansB B).length lc ∧ slotOf a 10 = i64 n ∧ Below W0.heap.size W0 W ∧ ∀ j : Nat, j < n → sureB B s j ld = false
def BoIR (w : World) (B : Book) (ld : Int) (la : Option Addr) (lc z : Nat) (W0 : World) (a : Act) (W : World) : Prop := ∃ (n : Nat) (v : Value), n ≤ B.tides.length ∧ a.tmps.size = 47 ∧ a.defers = [] ∧ slotOf a 1 = i64 ld ∧ slotOf a 2 = .pointer (some ⟨w.heap.size, 0, none⟩) ∧ slotOf a 6 = .slice la (cansB B).length lc ∧ slotOf a 8 = v ∧ slotOf a 9 = i64 n ∧ z ≤ W.heap.size ∧ Below z W0 W ∧ W.ownsRow z 3 1 v (bothL B ld n).length ((bothL B ld n).map i64)
def fiM (n : Nat) (t : Nat) (a : Act) : Nat := n - (intOf (slotOf a t)).toNat
theorem fiM_lt {n t i : Nat} {a b : Act} (hi : i < n) (ha : slotOf a t = i64 i) (hb : slotOf b t = i64 ((i : Int) + 1)) : fiM n t b < fiM n t a := by
  unfold fiM
  rw [ha, hb]
  show n - ((i : Int) + 1).toNat < n - (i : Int).toNat
  omega
def rdFi1f (i : Nat) : List Nat := match i with
  | 0 => [12] | 1 => [13] | 2 => [14] | 3 => [15] | 4 => [16] | 5 => [17] | 6 => [18] | 7 => [19] | 8 => [11] | 9 => [20] | 10 => [21] | 11 => [8] | 12 => [9] | _ => []
def pureFi1f (i : Nat) : Bool := match i with
  | 2 => false | 5 => false | 7 => false | _ => true
def gFi1f (B : Book) (ta : Option Addr) (tc : Nat) (sa : Option Addr) (sc : Nat) (s : Int) (i : Nat) (vs : List Value) (W : World) : Prop := match i with
  | 0 => vs = [.agg (bookCells B ta tc sa sc)]
  | 1 => vs = [i64 s]
  | 2 => vs = [.bool false]
  | 3 => vs = [.bool false]
  | 4 => True
  | 5 => True
  | 6 => vs = [.bool false]
  | 7 => ∃ b a l c, vs = [.tuple #[.slice a (List.length l) c, i64 (askE B false)]] ∧ CansAt W.heap.size W b 0 a l ∧ (askE B false = 0 → l = cansB B)
  | 8 => ∃ b a l c, vs = [.tuple #[.slice a (List.length l) c, i64 (askE B false)]] ∧ CansAt W.heap.size W b 0 a l ∧ (askE B false = 0 → l = cansB B)
  | 9 => ∃ b a l c, vs = [.slice a (List.length l) c] ∧ CansAt W.heap.size W b 0 a l ∧ (askE B false = 0 → l = cansB B)
  | 10 => vs = [i64 (askE B false)]
  | 11 => ∃ b a l c, vs = [.slice a (List.length l) c] ∧ CansAt W.heap.size W b 0 a l ∧ (askE B false = 0 → l = cansB B)
  | 12 => vs = [i64 (askE B false)]
  | _ => True
def rdFi2f (i : Nat) : List Nat := match i with
  | 0 => [12] | 1 => [13] | 2 => [14] | 3 => [15] | 4 => [16] | 5 => [17] | 6 => [18] | 7 => [19] | 8 => [11] | 9 => [20] | 10 => [21] | 11 => [8] | 12 => [9] | _ => []
def pureFi2f (i : Nat) : Bool := match i with
  | 2 => false | 5 => false | 7 => false | _ => true
def gFi2f (B : Book) (ta : Option Addr) (tc : Nat) (sa : Option Addr) (sc : Nat) (s ld : Int) (i : Nat) (vs : List Value) (W : World) : Prop := match i with
  | 0 => vs = [.agg (bookCells B ta tc sa sc)]
  | 1 => vs = [i64 s]
  | 2 => vs = [.bool true]
  | 3 => vs = [.bool true]
  | 4 => vs = [i64 ld]
  | 5 => vs = [.bool false]
  | 6 => vs = [.bool false]
  | 7 => ∃ b a l c, vs = [.tuple #[.slice a (List.length l) c, i64 (askE B false)]] ∧ CansAt W.heap.size W b 0 a l ∧ (askE B false = 0 → l = cansB B)
  | 8 => ∃ b a l c, vs = [.tuple #[.slice a (List.length l) c, i64 (askE B false)]] ∧ CansAt W.heap.size W b 0 a l ∧ (askE B false = 0 → l = cansB B)
  | 9 => ∃ b a l c, vs = [.slice a (List.length l) c] ∧ CansAt W.heap.size W b 0 a l ∧ (askE B false = 0 → l = cansB B)
  | 10 => vs = [i64 (askE B false)]
  | 11 => ∃ b a l c, vs = [.slice a (List.length l) c] ∧ CansAt W.heap.size W b 0 a l ∧ (askE B false = 0 → l = cansB B)
  | 12 => vs = [i64 (askE B false)]
  | _ => True
def rdFi2t (i : Nat) : List Nat := match i with
  | 0 => [12] | 1 => [13] | 2 => [14] | 3 => [15] | 4 => [16] | 5 => [17] | 6 => [18] | 7 => [19] | 8 => [11] | 9 => [20] | 10 => [21] | 11 => [8] | 12 => [9] | _ => []
def pureFi2t (i : Nat) : Bool := match i with
  | 2 => false | 5 => false | 7 => false | _ => true
def gFi2t (B : Book) (ta : Option Addr) (tc : Nat) (sa : Option Addr) (sc : Nat) (s ld : Int) (i : Nat) (vs : List Value) (W : World) : Prop := match i with
  | 0 => vs = [.agg (bookCells B ta tc sa sc)]
  | 1 => vs = [i64 s]
  | 2 => vs = [.bool true]
  | 3 => vs = [.bool true]
  | 4 => vs = [i64 ld]
  | 5 => vs = [.bool true]
  | 6 => vs = [.bool true]
  | 7 => ∃ b a l c, vs = [.tuple #[.slice a (List.length l) c, i64 (askE B true)]] ∧ CansAt W.heap.size W b 0 a l ∧ (askE B true = 0 → l = cansB B)
  | 8 => ∃ b a l c, vs = [.tuple #[.slice a (List.length l) c, i64 (askE B true)]] ∧ CansAt W.heap.size W b 0 a l ∧ (askE B true = 0 → l = cansB B)
  | 9 => ∃ b a l c, vs = [.slice a (List.length l) c] ∧ CansAt W.heap.size W b 0 a l ∧ (askE B true = 0 → l = cansB B)
  | 10 => vs = [i64 (askE B true)]
  | 11 => ∃ b a l c, vs = [.slice a (List.length l) c] ∧ CansAt W.heap.size W b 0 a l ∧ (askE B true = 0 → l = cansB B)
  | 12 => vs = [i64 (askE B true)]
  | _ => True
def rdBo1f (i : Nat) : List Nat := match i with
  | 0 => [11] | 1 => [12] | 2 => [13] | 3 => [14] | 4 => [10] | 5 => [15] | 6 => [16] | 7 => [6] | 8 => [7] | _ => []
def pureBo1f (i : Nat) : Bool := match i with
  | 2 => false | 3 => false | _ => true
def gBo1f (B : Book) (ta : Option Addr) (tc : Nat) (sa : Option Addr) (sc : Nat) (ld : Int) (i : Nat) (vs : List Value) (W : World) : Prop := match i with
  | 0 => vs = [.agg (bookCells B ta tc sa sc)]
  | 1 => vs = [i64 ld]
  | 2 => vs = [.bool false]
  | 3 => ∃ b a l c, vs = [.tuple #[.slice a (List.length l) c, i64 (askE B false)]] ∧ CansAt W.heap.size W b 0 a l ∧ (askE B false = 0 → l = cansB B)
  | 4 => ∃ b a l c, vs = [.tuple #[.slice a (List.length l) c, i64 (askE B false)]] ∧ CansAt W.heap.size W b 0 a l ∧ (askE B false = 0 → l = cansB B)
  | 5 => ∃ b a l c, vs = [.slice a (List.length l) c] ∧ CansAt W.heap.size W b 0 a l ∧ (askE B false = 0 → l = cansB B)
  | 6 => vs = [i64 (askE B false)]
  | 7 => ∃ b a l c, vs = [.slice a (List.length l) c] ∧ CansAt W.heap.size W b 0 a l ∧ (askE B false = 0 → l = cansB B)
  | 8 => vs = [i64 (askE B false)]
  | _ => True
def rdBo1t (i : Nat) : List Nat := match i with
  | 0 => [11] | 1 => [12] | 2 => [13] | 3 => [14] | 4 => [10] | 5 => [15] | 6 => [16] | 7 => [6] | 8 => [7] | _ => []
def pureBo1t (i : Nat) : Bool := match i with
  | 2 => false | 3 => false | _ => true
def gBo1t (B : Book) (ta : Option Addr) (tc : Nat) (sa : Option Addr) (sc : Nat) (ld : Int) (i : Nat) (vs : List Value) (W : World) : Prop := match i with
  | 0 => vs = [.agg (bookCells B ta tc sa sc)]
  | 1 => vs = [i64 ld]
  | 2 => vs = [.bool true]
  | 3 => ∃ b a l c, vs = [.tuple #[.slice a (List.length l) c, i64 (askE B true)]] ∧ CansAt W.heap.size W b 0 a l ∧ (askE B true = 0 → l = cansB B)
  | 4 => ∃ b a l c, vs = [.tuple #[.slice a (List.length l) c, i64 (askE B true)]] ∧ CansAt W.heap.size W b 0 a l ∧ (askE B true = 0 → l = cansB B)
  | 5 => ∃ b a l c, vs = [.slice a (List.length l) c] ∧ CansAt W.heap.size W b 0 a l ∧ (askE B true = 0 → l = cansB B)
  | 6 => vs = [i64 (askE B true)]
  | 7 => ∃ b a l c, vs = [.slice a (List.length l) c] ∧ CansAt W.heap.size W b 0 a l ∧ (askE B true = 0 → l = cansB B)
  | 8 => vs = [i64 (askE B true)]
  | _ => True
set_option maxRecDepth 100000 in
set_option maxHeartbeats 8000000 in
theorem firstRef_any (B : Book) (ta : Option Addr) (tc : Nat) (sa : Option Addr) (sc : Nat) (s ld : Int) (w : World) (hB : BookV w (bookVal B ta tc sa sc) B) : Calls Tryd.prog 65 #[bookVal B ta tc sa sc, i64 s, i64 ld] w (FirstPost B s ld w) := by
  have hb0 : Below w.heap.size w (w.alloc (.cells (bookCells B ta tc sa sc) 30)) := (Below.refl _ w).alloc (Nat.le_refl _) _
  have hx0 : (w.alloc (.cells (bookCells B ta tc sa sc) 30)).heap[w.heap.size]? = some (.cells (bookCells B ta tc sa sc) 30 (0, 0)) := heap_alloc_new w _
  have hx0l := (Array.getElem?_eq_some_iff.1 hx0).1
  have hB0 := hB.below hb0
  cases hq0 : inB s 0 1
  · replace hq0 := Lib.hid hq0
    have hne : (askE B false != 0) = true := ask_false_ne B
    have hfin := firstR_f0 (B := B) (ld := ld) hq0.out
    go_enter Tryd.func65, Tryd.ntmps65
    go_wp2_with fail
    refine rg_region rdFi1f pureFi1f (gFi1f B ta tc sa sc s) BR (by kernel_rfl) (by kernel_rfl) (fun n => BR.drawn _ n) BR.refl (fun _ _ _ => BR.trans) ?_ ?_ ?_
    · intro i hi vs wA wB hG hR
      match i, hi, hG with
      | 0, _, hG => exact hG
      | 1, _, hG => exact hG
      | 2, _, hG => exact hG
      | 3, _, hG => exact hG
      | 4, _, _ => trivial
      | 5, _, _ => trivial
      | 6, _, hG => exact hG
      | 7, _, hG => obtain ⟨b, a, l, c, h1, h2, h3⟩ := hG; exact ⟨b, a, l, c, h1, (h2.same (Same.of_below hR)).up (Below.size hR), h3⟩
      | 8, _, hG => obtain ⟨b, a, l, c, h1, h2, h3⟩ := hG; exact ⟨b, a, l, c, h1, (h2.same (Same.of_below hR)).up (Below.size hR), h3⟩
      | 9, _, hG => obtain ⟨b, a, l, c, h1, h2, h3⟩ := hG; exact ⟨b, a, l, c, h1, (h2.same (Same.of_below hR)).up (Below.size hR), h3⟩
      | 10, _, hG => exact hG
      | 11, _, hG => obtain ⟨b, a, l, c, h1, h2, h3⟩ := hG; exact ⟨b, a, l, c, h1, (h2.same (Same.of_below hR)).up (Below.size hR), h3⟩
      | 12, _, hG => exact hG
      | _ + 13, _, _ => trivial
    · intro i op ho act wA hR hF hD
      have sz : act.tmps.size = 40 := hF.size
      match i, ho, hD with
      | 0, ho, hD =>
        cases ho
        have e3 := slot_tmps (show slotOf act 3 = .pointer (some ⟨w.heap.size, 0, none⟩) from hF.slot 3 (by kernel_rfl))
        refine rgw_val (wanted_none rfl) (.agg (bookCells B ta tc sa sc)) (by exact ex_load_row (a := act) 30 (.tmp 3) rfl w.heap.size (show slotOf act 3 = .pointer (some ⟨w.heap.size, 0, none⟩) from hF.slot 3 (by kernel_rfl)) 30 _ (0, 0) _ ((Below.block hR _ hx0l).trans hx0) Tryd.underlying30 rfl (by rw [size30]; rfl)) (BR.refl _) ?_
        exact congrArg (fun v => [v]) (slotOf_same act 12 _ (by omega))
      | 1, ho, hD =>
        cases ho
        have e1 := slot_tmps (show slotOf act 1 = i64 s from hF.slot 1 (by kernel_rfl))
        refine rgw_val (wanted_none rfl) (i64 s) (by simp [go_sem, e1]) (BR.refl _) ?_
        exact congrArg (fun v => [v]) (slotOf_same act 13 _ (by omega))
      | 2, ho, hD =>
        cases ho
        have e13 := slot_tmps (List.cons.inj (hD 1 (by decide))).1
        refine rgw_call (wanted_none rfl) 87 #[i64 s] (by simp [go_sem, e13]) rfl ?_
        refine (isShoreR_any _ _).mono ?_
        rintro e wB ⟨rfl, rfl⟩
        rw [hq0.out]
        exact ⟨_, rfl, BR.refl _, congrArg (fun v => [v]) (slotOf_same act 14 _ (by omega))⟩
      | 3, ho, hD =>
        cases ho
        have e14 := slot_tmps (List.cons.inj (hD 2 (by decide))).1
        refine rgw_val (wanted_none rfl) (.bool false) (by simp [go_sem, e14]) (BR.refl _) ?_
        exact congrArg (fun v => [v]) (slotOf_same act 15 _ (by omega))
      | 4, ho, hD =>
        cases ho
        have dj : slotOf act 15 = .bool false := (List.cons.inj (hD 3 (by decide))).1
        refine rgw_skip (by rw [wanted_of (d := 15) rfl rfl dj]; rfl) ?_
        trivial
      | 5, ho, hD =>
        cases ho
        have dj : slotOf act 15 = .bool false := (List.cons.inj (hD 3 (by decide))).1
        refine rgw_skip (by rw [wanted_of (d := 15) rfl rfl dj]; rfl) ?_
        trivial
      | 6, ho, hD =>
        cases ho
        have e15 := slot_tmps (List.cons.inj (hD 3 (by decide))).1
        refine rgw_val (wanted_none rfl) (.bool false) (by simp [go_sem, e15]) (BR.refl _) ?_
        exact congrArg (fun v => [v]) (slotOf_same act 18 _ (by omega))
      | 7, ho, hD =>
        cases ho
        have e12 := slot_tmps (List.cons.inj (hD 0 (by decide))).1
        have e18 := slot_tmps (List.cons.inj (hD 6 (by decide))).1
        refine rgw_call (wanted_none rfl) 88 #[bookVal B ta tc sa sc, .bool false] (by simp [go_sem, e12, e18]) rfl ?_
        refine (askedR_v (hB0.below hR) false).mono ?_
        rintro e wB ⟨b, a, l, c, rfl, hb, hC, hl⟩
        exact ⟨_, rfl, hb, b, a, l, c, congrArg (fun v => [v]) (slotOf_same act 19 _ (by omega)), hC, hl⟩
      | 8, ho, hD =>
        cases ho
        obtain ⟨b, a, l, c, dt, hC, hl⟩ := hD 7 (by decide)
        have es := slot_tmps (List.cons.inj dt).1
        refine rgw_val (wanted_none rfl) (.tuple #[.slice a (List.length l) c, i64 (askE B false)]) (by simp [go_sem, es]) (BR.refl _) ?_
        exact ⟨b, a, l, c, congrArg (fun v => [v]) (slotOf_same act 11 _ (by omega)), hC, hl⟩
      | 9, ho, hD =>
        cases ho
        obtain ⟨b, a, l, c, dt, hC, hl⟩ := hD 8 (by decide)
        have es := slot_tmps (List.cons.inj dt).1
        refine rgw_val (wanted_none rfl) (.slice a (List.length l) c) (by simp [go_sem, es]) (BR.refl _) ?_
        exact ⟨b, a, l, c, congrArg (fun v => [v]) (slotOf_same act 20 _ (by omega)), hC, hl⟩
      | 10, ho, hD =>
        cases ho
        obtain ⟨b, a, l, c, dt, hC, hl⟩ := hD 8 (by decide)
        have es := slot_tmps (List.cons.inj dt).1
        refine rgw_val (wanted_none rfl) (i64 (askE B false)) (by simp [go_sem, es]) (BR.refl _) ?_
        exact congrArg (fun v => [v]) (slotOf_same act 21 _ (by omega))
      | 11, ho, hD =>
        cases ho
        obtain ⟨b, a, l, c, dt, hC, hl⟩ := hD 9 (by decide)
        have es := slot_tmps (List.cons.inj dt).1
        refine rgw_val (wanted_none rfl) (.slice a (List.length l) c) (by simp [go_sem, es]) (BR.refl _) ?_
        exact ⟨b, a, l, c, congrArg (fun v => [v]) (slotOf_same act 8 _ (by omega)), hC, hl⟩
      | 12, ho, hD =>
        cases ho
        have e21 := slot_tmps (List.cons.inj (hD 10 (by decide))).1
        refine rgw_val (wanted_none rfl) (i64 (askE B false)) (by simp [go_sem, e21]) (BR.refl _) ?_
        exact congrArg (fun v => [v]) (slotOf_same act 9 _ (by omega))
      | _ + 13, ho, _ => cases ho
    · intro act wA hR hF hA
      have f1 : slotOf act 1 = i64 s := hF.slot 1 (by kernel_rfl)
      have f2 : slotOf act 2 = i64 ld := hF.slot 2 (by kernel_rfl)
      have f3 : slotOf act 3 = .pointer (some ⟨w.heap.size, 0, none⟩) := hF.slot 3 (by kernel_rfl)
      have f6 : slotOf act 6 = i64 0 := hF.slot 6 (by kernel_rfl)
      have f7 : slotOf act 7 = i64 0 := hF.slot 7 (by kernel_rfl)
      obtain ⟨lb, la, l, lc, d8, hC, hl⟩ := hA 11 (by decide)
      have f8 : slotOf act 8 = .slice la l.length lc := (List.cons.inj d8).1
      have f9 : slotOf act 9 = i64 (askE B false) := (List.cons.inj (hA 12 (by decide))).1
      have f12 : slotOf act 12 = .agg (bookCells B ta tc sa sc) := (List.cons.inj (hA 0 (by decide))).1
      have f13 : slotOf act 13 = i64 s := (List.cons.inj (hA 1 (by decide))).1
      have f14 : slotOf act 14 = .bool false := (List.cons.inj (hA 2 (by decide))).1
      have f15 : slotOf act 15 = .bool false := (List.cons.inj (hA 3 (by decide))).1
      have f18 : slotOf act 18 = .bool false := (List.cons.inj (hA 6 (by decide))).1
      have f21 : slotOf act 21 = i64 (askE B false) := (List.cons.inj (hA 10 (by decide))).1
      rw [act_eta act 40 hF.size hF.defers]
      simp only [show List.range 40 = [0, 1, 2, 3, 4, 5, 6, 7, 8, 9, 10, 11, 12, 13, 14, 15, 16, 17, 18, 19, 20, 21, 22, 23, 24, 25, 26, 27, 28, 29, 30, 31, 32, 33, 34, 35, 36, 37, 38, 39] from rfl, List.map_cons, List.map_nil, f1, f2, f3, f6, f7, f8, f9, f12, f13, f14, f15, f18, f21]
      clear hA hF f1 f2 f3 f6 f7 f8 f9 f12 f13 f14 f15 f18 f21
      have hbA := hb0.trans (Below.mono hR hb0.size)
      clear hR
      go_wp2_with fail
      refine bodyPost_ret (results_tmp2 rfl _ _) rfl ⟨by rw [hfin.out]; rfl, hbA⟩
  · replace hq0 := Lib.hid hq0
    cases hq1 : inB ld 0 200
    · replace hq1 := Lib.hid hq1
      have hne : (askE B false != 0) = true := ask_false_ne B
      have hfin := firstR_f1 (B := B) (s := s) hq1.out
      go_enter Tryd.func65, Tryd.ntmps65
      go_wp2_with fail
      refine rg_region rdFi2f pureFi2f (gFi2f B ta tc sa sc s ld) BR (by kernel_rfl) (by kernel_rfl) (fun n => BR.drawn _ n) BR.refl (fun _ _ _ => BR.trans) ?_ ?_ ?_
      · intro i hi vs wA wB hG hR
        match i, hi, hG with
        | 0, _, hG => exact hG
        | 1, _, hG => exact hG
        | 2, _, hG => exact hG
        | 3, _, hG => exact hG
        | 4, _, hG => exact hG
        | 5, _, hG => exact hG
        | 6, _, hG => exact hG
        | 7, _, hG => obtain ⟨b, a, l, c, h1, h2, h3⟩ := hG; exact ⟨b, a, l, c, h1, (h2.same (Same.of_below hR)).up (Below.size hR), h3⟩
        | 8, _, hG => obtain ⟨b, a, l, c, h1, h2, h3⟩ := hG; exact ⟨b, a, l, c, h1, (h2.same (Same.of_below hR)).up (Below.size hR), h3⟩
        | 9, _, hG => obtain ⟨b, a, l, c, h1, h2, h3⟩ := hG; exact ⟨b, a, l, c, h1, (h2.same (Same.of_below hR)).up (Below.size hR), h3⟩
        | 10, _, hG => exact hG
        | 11, _, hG => obtain ⟨b, a, l, c, h1, h2, h3⟩ := hG; exact ⟨b, a, l, c, h1, (h2.same (Same.of_below hR)).up (Below.size hR), h3⟩
        | 12, _, hG => exact hG
        | _ + 13, _, _ => trivial
      · intro i op ho act wA hR hF hD
        have sz : act.tmps.size = 40 := hF.size
        match i, ho, hD with
        | 0, ho, hD =>
          cases ho
          have e3 := slot_tmps (show slotOf act 3 = .pointer (some ⟨w.heap.size, 0, none⟩) from hF.slot 3 (by kernel_rfl))
          refine rgw_val (wanted_none rfl) (.agg (bookCells B ta tc sa sc)) (by exact ex_load_row (a := act) 30 (.tmp 3) rfl w.heap.size (show slotOf act 3 = .pointer (some ⟨w.heap.size, 0, none⟩) from hF.slot 3 (by kernel_rfl)) 30 _ (0, 0) _ ((Below.block hR _ hx0l).trans hx0) Tryd.underlying30 rfl (by rw [size30]; rfl)) (BR.refl _) ?_
          exact congrArg (fun v => [v]) (slotOf_same act 12 _ (by omega))
        | 1, ho, hD =>
          cases ho
          have e1 := slot_tmps (show slotOf act 1 = i64 s from hF.slot 1 (by kernel_rfl))
          refine rgw_val (wanted_none rfl) (i64 s) (by simp [go_sem, e1]) (BR.refl _) ?_
          exact congrArg (fun v => [v]) (slotOf_same act 13 _ (by omega))
        | 2, ho, hD =>
          cases ho
          have e13 := slot_tmps (List.cons.inj (hD 1 (by decide))).1
          refine rgw_call (wanted_none rfl) 87 #[i64 s] (by simp [go_sem, e13]) rfl ?_
          refine (isShoreR_any _ _).mono ?_
          rintro e wB ⟨rfl, rfl⟩
          rw [hq0.out]
          exact ⟨_, rfl, BR.refl _, congrArg (fun v => [v]) (slotOf_same act 14 _ (by omega))⟩
        | 3, ho, hD =>
          cases ho
          have e14 := slot_tmps (List.cons.inj (hD 2 (by decide))).1
          refine rgw_val (wanted_none rfl) (.bool true) (by simp [go_sem, e14]) (BR.refl _) ?_
          exact congrArg (fun v => [v]) (slotOf_same act 15 _ (by omega))
        | 4, ho, hD =>
          cases ho
          have dj : slotOf act 15 = .bool true := (List.cons.inj (hD 3 (by decide))).1
          have e2 := slot_tmps (show slotOf act 2 = i64 ld from hF.slot 2 (by kernel_rfl))
          refine rgw_val (by rw [wanted_of (d := 15) rfl rfl dj]; rfl) (i64 ld) (by simp [go_sem, e2]) (BR.refl _) ?_
          exact congrArg (fun v => [v]) (slotOf_same act 16 _ (by omega))
        | 5, ho, hD =>
          cases ho
          have dj : slotOf act 15 = .bool true := (List.cons.inj (hD 3 (by decide))).1
          have e16 := slot_tmps (List.cons.inj (hD 4 (by decide))).1
          refine rgw_call (by rw [wanted_of (d := 15) rfl rfl dj]; rfl) 91 #[i64 ld] (by simp [go_sem, e16]) rfl ?_
          refine (isLoadR_any _ _).mono ?_
          rintro e wB ⟨rfl, rfl⟩
          rw [hq1.out]
          exact ⟨_, rfl, BR.refl _, congrArg (fun v => [v]) (slotOf_same act 17 _ (by omega))⟩
        | 6, ho, hD =>
          cases ho
          have e15 := slot_tmps (List.cons.inj (hD 3 (by decide))).1
          have e17 := slot_tmps (List.cons.inj (hD 5 (by decide))).1
          refine rgw_val (wanted_none rfl) (.bool false) (by simp [go_sem, e15, e17]) (BR.refl _) ?_
          exact congrArg (fun v => [v]) (slotOf_same act 18 _ (by omega))
        | 7, ho, hD =>
          cases ho
          have e12 := slot_tmps (List.cons.inj (hD 0 (by decide))).1
          have e18 := slot_tmps (List.cons.inj (hD 6 (by decide))).1
          refine rgw_call (wanted_none rfl) 88 #[bookVal B ta tc sa sc, .bool false] (by simp [go_sem, e12, e18]) rfl ?_
          refine (askedR_v (hB0.below hR) false).mono ?_
          rintro e wB ⟨b, a, l, c, rfl, hb, hC, hl⟩
          exact ⟨_, rfl, hb, b, a, l, c, congrArg (fun v => [v]) (slotOf_same act 19 _ (by omega)), hC, hl⟩
        | 8, ho, hD =>
          cases ho
          obtain ⟨b, a, l, c, dt, hC, hl⟩ := hD 7 (by decide)
          have es := slot_tmps (List.cons.inj dt).1
          refine rgw_val (wanted_none rfl) (.tuple #[.slice a (List.length l) c, i64 (askE B false)]) (by simp [go_sem, es]) (BR.refl _) ?_
          exact ⟨b, a, l, c, congrArg (fun v => [v]) (slotOf_same act 11 _ (by omega)), hC, hl⟩
        | 9, ho, hD =>
          cases ho
          obtain ⟨b, a, l, c, dt, hC, hl⟩ := hD 8 (by decide)
          have es := slot_tmps (List.cons.inj dt).1
          refine rgw_val (wanted_none rfl) (.slice a (List.length l) c) (by simp [go_sem, es]) (BR.refl _) ?_
          exact ⟨b, a, l, c, congrArg (fun v => [v]) (slotOf_same act 20 _ (by omega)), hC, hl⟩
        | 10, ho, hD =>
          cases ho
          obtain ⟨b, a, l, c, dt, hC, hl⟩ := hD 8 (by decide)
          have es := slot_tmps (List.cons.inj dt).1
          refine rgw_val (wanted_none rfl) (i64 (askE B false)) (by simp [go_sem, es]) (BR.refl _) ?_
          exact congrArg (fun v => [v]) (slotOf_same act 21 _ (by omega))
        | 11, ho, hD =>
          cases ho
          obtain ⟨b, a, l, c, dt, hC, hl⟩ := hD 9 (by decide)
          have es := slot_tmps (List.cons.inj dt).1
          refine rgw_val (wanted_none rfl) (.slice a (List.length l) c) (by simp [go_sem, es]) (BR.refl _) ?_
          exact ⟨b, a, l, c, congrArg (fun v => [v]) (slotOf_same act 8 _ (by omega)), hC, hl⟩
        | 12, ho, hD =>
          cases ho
          have e21 := slot_tmps (List.cons.inj (hD 10 (by decide))).1
          refine rgw_val (wanted_none rfl) (i64 (askE B false)) (by simp [go_sem, e21]) (BR.refl _) ?_
          exact congrArg (fun v => [v]) (slotOf_same act 9 _ (by omega))
        | _ + 13, ho, _ => cases ho
      · intro act wA hR hF hA
        have f1 : slotOf act 1 = i64 s := hF.slot 1 (by kernel_rfl)
        have f2 : slotOf act 2 = i64 ld := hF.slot 2 (by kernel_rfl)
        have f3 : slotOf act 3 = .pointer (some ⟨w.heap.size, 0, none⟩) := hF.slot 3 (by kernel_rfl)
        have f6 : slotOf act 6 = i64 0 := hF.slot 6 (by kernel_rfl)
        have f7 : slotOf act 7 = i64 0 := hF.slot 7 (by kernel_rfl)
        obtain ⟨lb, la, l, lc, d8, hC, hl⟩ := hA 11 (by decide)
        have f8 : slotOf act 8 = .slice la l.length lc := (List.cons.inj d8).1
        have f9 : slotOf act 9 = i64 (askE B false) := (List.cons.inj (hA 12 (by decide))).1
        have f12 : slotOf act 12 = .agg (bookCells B ta tc sa sc) := (List.cons.inj (hA 0 (by decide))).1
        have f13 : slotOf act 13 = i64 s := (List.cons.inj (hA 1 (by decide))).1
        have f14 : slotOf act 14 = .bool true := (List.cons.inj (hA 2 (by decide))).1
        have f15 : slotOf act 15 = .bool true := (List.cons.inj (hA 3 (by decide))).1
        have f16 : slotOf act 16 = i64 ld := (List.cons.inj (hA 4 (by decide))).1
        have f17 : slotOf act 17 = .bool false := (List.cons.inj (hA 5 (by decide))).1
        have f18 : slotOf act 18 = .bool false := (List.cons.inj (hA 6 (by decide))).1
        have f21 : slotOf act 21 = i64 (askE B false) := (List.cons.inj (hA 10 (by decide))).1
        rw [act_eta act 40 hF.size hF.defers]
        simp only [show List.range 40 = [0, 1, 2, 3, 4, 5, 6, 7, 8, 9, 10, 11, 12, 13, 14, 15, 16, 17, 18, 19, 20, 21, 22, 23, 24, 25, 26, 27, 28, 29, 30, 31, 32, 33, 34, 35, 36, 37, 38, 39] from rfl, List.map_cons, List.map_nil, f1, f2, f3, f6, f7, f8, f9, f12, f13, f14, f15, f16, f17, f18, f21]
        clear hA hF f1 f2 f3 f6 f7 f8 f9 f12 f13 f14 f15 f16 f17 f18 f21
        have hbA := hb0.trans (Below.mono hR hb0.size)
        clear hR
        go_wp2_with fail
        refine bodyPost_ret (results_tmp2 rfl _ _) rfl ⟨by rw [hfin.out]; rfl, hbA⟩
    · replace hq1 := Lib.hid hq1
      go_enter Tryd.func65, Tryd.ntmps65
      go_wp2_with fail
      refine rg_region rdFi2t pureFi2t (gFi2t B ta tc sa sc s ld) BR (by kernel_rfl) (by kernel_rfl) (fun n => BR.drawn _ n) BR.refl (fun _ _ _ => BR.trans) ?_ ?_ ?_
      · intro i hi vs wA wB hG hR
        match i, hi, hG with
        | 0, _, hG => exact hG
        | 1, _, hG => exact hG
        | 2, _, hG => exact hG
        | 3, _, hG => exact hG
        | 4, _, hG => exact hG
        | 5, _, hG => exact hG
        | 6, _, hG => exact hG
        | 7, _, hG => obtain ⟨b, a, l, c, h1, h2, h3⟩ := hG; exact ⟨b, a, l, c, h1, (h2.same (Same.of_below hR)).up (Below.size hR), h3⟩
        | 8, _, hG => obtain ⟨b, a, l, c, h1, h2, h3⟩ := hG; exact ⟨b, a, l, c, h1, (h2.same (Same.of_below hR)).up (Below.size hR), h3⟩
        | 9, _, hG => obtain ⟨b, a, l, c, h1, h2, h3⟩ := hG; exact ⟨b, a, l, c, h1, (h2.same (Same.of_below hR)).up (Below.size hR), h3⟩
        | 10, _, hG => exact hG
        | 11, _, hG => obtain ⟨b, a, l, c, h1, h2, h3⟩ := hG; exact ⟨b, a, l, c, h1, (h2.same (Same.of_below hR)).up (Below.size hR), h3⟩
        | 12, _, hG => exact hG
        | _ + 13, _, _ => trivial
      · intro i op ho act wA hR hF hD
        have sz : act.tmps.size = 40 := hF.size
        match i, ho, hD with
        | 0, ho, hD =>
          cases ho
          have e3 := slot_tmps (show slotOf act 3 = .pointer (some ⟨w.heap.size, 0, none⟩) from hF.slot 3 (by kernel_rfl))
          refine rgw_val (wanted_none rfl) (.agg (bookCells B ta tc sa sc)) (by exact ex_load_row (a := act) 30 (.tmp 3) rfl w.heap.size (show slotOf act 3 = .pointer (some ⟨w.heap.size, 0, none⟩) from hF.slot 3 (by kernel_rfl)) 30 _ (0, 0) _ ((Below.block hR _ hx0l).trans hx0) Tryd.underlying30 rfl (by rw [size30]; rfl)) (BR.refl _) ?_
          exact congrArg (fun v => [v]) (slotOf_same act 12 _ (by omega))
        | 1, ho, hD =>
          cases ho
          have e1 := slot_tmps (show slotOf act 1 = i64 s from hF.slot 1 (by kernel_rfl))
          refine rgw_val (wanted_none rfl) (i64 s) (by simp [go_sem, e1]) (BR.refl _) ?_
          exact congrArg (fun v => [v]) (slotOf_same act 13 _ (by omega))
        | 2, ho, hD =>
          cases ho
          have e13 := slot_tmps (List.cons.inj (hD 1 (by decide))).1
          refine rgw_call (wanted_none rfl) 87 #[i64 s] (by simp [go_sem, e13]) rfl ?_
          refine (isShoreR_any _ _).mono ?_
          rintro e wB ⟨rfl, rfl⟩
          rw [hq0.out]
          exact ⟨_, rfl, BR.refl _, congrArg (fun v => [v]) (slotOf_same act 14 _ (by omega))⟩
        | 3, ho, hD =>
          cases ho
          have e14 := slot_tmps (List.cons.inj (hD 2 (by decide))).1
          refine rgw_val (wanted_none rfl) (.bool true) (by simp [go_sem, e14]) (BR.refl _) ?_
          exact congrArg (fun v => [v]) (slotOf_same act 15 _ (by omega))
        | 4, ho, hD =>
          cases ho
          have dj : slotOf act 15 = .bool true := (List.cons.inj (hD 3 (by decide))).1
          have e2 := slot_tmps (show slotOf act 2 = i64 ld from hF.slot 2 (by kernel_rfl))
          refine rgw_val (by rw [wanted_of (d := 15) rfl rfl dj]; rfl) (i64 ld) (by simp [go_sem, e2]) (BR.refl _) ?_
          exact congrArg (fun v => [v]) (slotOf_same act 16 _ (by omega))
        | 5, ho, hD =>
          cases ho
          have dj : slotOf act 15 = .bool true := (List.cons.inj (hD 3 (by decide))).1
          have e16 := slot_tmps (List.cons.inj (hD 4 (by decide))).1
          refine rgw_call (by rw [wanted_of (d := 15) rfl rfl dj]; rfl) 91 #[i64 ld] (by simp [go_sem, e16]) rfl ?_
          refine (isLoadR_any _ _).mono ?_
          rintro e wB ⟨rfl, rfl⟩
          rw [hq1.out]
          exact ⟨_, rfl, BR.refl _, congrArg (fun v => [v]) (slotOf_same act 17 _ (by omega))⟩
        | 6, ho, hD =>
          cases ho
          have e15 := slot_tmps (List.cons.inj (hD 3 (by decide))).1
          have e17 := slot_tmps (List.cons.inj (hD 5 (by decide))).1
          refine rgw_val (wanted_none rfl) (.bool true) (by simp [go_sem, e15, e17]) (BR.refl _) ?_
          exact congrArg (fun v => [v]) (slotOf_same act 18 _ (by omega))
        | 7, ho, hD =>
          cases ho
          have e12 := slot_tmps (List.cons.inj (hD 0 (by decide))).1
          have e18 := slot_tmps (List.cons.inj (hD 6 (by decide))).1
          refine rgw_call (wanted_none rfl) 88 #[bookVal B ta tc sa sc, .bool true] (by simp [go_sem, e12, e18]) rfl ?_
          refine (askedR_v (hB0.below hR) true).mono ?_
          rintro e wB ⟨b, a, l, c, rfl, hb, hC, hl⟩
          exact ⟨_, rfl, hb, b, a, l, c, congrArg (fun v => [v]) (slotOf_same act 19 _ (by omega)), hC, hl⟩
        | 8, ho, hD =>
          cases ho
          obtain ⟨b, a, l, c, dt, hC, hl⟩ := hD 7 (by decide)
          have es := slot_tmps (List.cons.inj dt).1
          refine rgw_val (wanted_none rfl) (.tuple #[.slice a (List.length l) c, i64 (askE B true)]) (by simp [go_sem, es]) (BR.refl _) ?_
          exact ⟨b, a, l, c, congrArg (fun v => [v]) (slotOf_same act 11 _ (by omega)), hC, hl⟩
        | 9, ho, hD =>
          cases ho
          obtain ⟨b, a, l, c, dt, hC, hl⟩ := hD 8 (by decide)
          have es := slot_tmps (List.cons.inj dt).1
          refine rgw_val (wanted_none rfl) (.slice a (List.length l) c) (by simp [go_sem, es]) (BR.refl _) ?_
          exact ⟨b, a, l, c, congrArg (fun v => [v]) (slotOf_same act 20 _ (by omega)), hC, hl⟩
        | 10, ho, hD =>
          cases ho
          obtain ⟨b, a, l, c, dt, hC, hl⟩ := hD 8 (by decide)
          have es := slot_tmps (List.cons.inj dt).1
          refine rgw_val (wanted_none rfl) (i64 (askE B true)) (by simp [go_sem, es]) (BR.refl _) ?_
          exact congrArg (fun v => [v]) (slotOf_same act 21 _ (by omega))
        | 11, ho, hD =>
          cases ho
          obtain ⟨b, a, l, c, dt, hC, hl⟩ := hD 9 (by decide)
          have es := slot_tmps (List.cons.inj dt).1
          refine rgw_val (wanted_none rfl) (.slice a (List.length l) c) (by simp [go_sem, es]) (BR.refl _) ?_
          exact ⟨b, a, l, c, congrArg (fun v => [v]) (slotOf_same act 8 _ (by omega)), hC, hl⟩
        | 12, ho, hD =>
          cases ho
          have e21 := slot_tmps (List.cons.inj (hD 10 (by decide))).1
          refine rgw_val (wanted_none rfl) (i64 (askE B true)) (by simp [go_sem, e21]) (BR.refl _) ?_
          exact congrArg (fun v => [v]) (slotOf_same act 9 _ (by omega))
        | _ + 13, ho, _ => cases ho
      · intro act wA hR hF hA
        have f1 : slotOf act 1 = i64 s := hF.slot 1 (by kernel_rfl)
        have f2 : slotOf act 2 = i64 ld := hF.slot 2 (by kernel_rfl)
        have f3 : slotOf act 3 = .pointer (some ⟨w.heap.size, 0, none⟩) := hF.slot 3 (by kernel_rfl)
        have f6 : slotOf act 6 = i64 0 := hF.slot 6 (by kernel_rfl)
        have f7 : slotOf act 7 = i64 0 := hF.slot 7 (by kernel_rfl)
        obtain ⟨lb, la, l, lc, d8, hC, hl⟩ := hA 11 (by decide)
        have f8 : slotOf act 8 = .slice la l.length lc := (List.cons.inj d8).1
        have f9 : slotOf act 9 = i64 (askE B true) := (List.cons.inj (hA 12 (by decide))).1
        have f12 : slotOf act 12 = .agg (bookCells B ta tc sa sc) := (List.cons.inj (hA 0 (by decide))).1
        have f13 : slotOf act 13 = i64 s := (List.cons.inj (hA 1 (by decide))).1
        have f14 : slotOf act 14 = .bool true := (List.cons.inj (hA 2 (by decide))).1
        have f15 : slotOf act 15 = .bool true := (List.cons.inj (hA 3 (by decide))).1
        have f16 : slotOf act 16 = i64 ld := (List.cons.inj (hA 4 (by decide))).1
        have f17 : slotOf act 17 = .bool true := (List.cons.inj (hA 5 (by decide))).1
        have f18 : slotOf act 18 = .bool true := (List.cons.inj (hA 6 (by decide))).1
        have f21 : slotOf act 21 = i64 (askE B true) := (List.cons.inj (hA 10 (by decide))).1
        rw [act_eta act 40 hF.size hF.defers]
        simp only [show List.range 40 = [0, 1, 2, 3, 4, 5, 6, 7, 8, 9, 10, 11, 12, 13, 14, 15, 16, 17, 18, 19, 20, 21, 22, 23, 24, 25, 26, 27, 28, 29, 30, 31, 32, 33, 34, 35, 36, 37, 38, 39] from rfl, List.map_cons, List.map_nil, f1, f2, f3, f6, f7, f8, f9, f12, f13, f14, f15, f16, f17, f18, f21]
        clear hA hF f1 f2 f3 f6 f7 f8 f9 f12 f13 f14 f15 f16 f17 f18 f21
        by_cases ha : askE B true = 0
        · obtain rfl := hl ha
          have hne : (askE B true != 0) = false := by rw [ha]; rfl
          have hVd := valid_iff.1 (ask_zero ha).1
          have hcc : ∃ f, CC B [] f := (ask_cases (ask_zero ha).1).elim (fun h => by rw [h.2] at ha; cases ha) (fun h => h.1)
          have hxA := (Below.block hR _ hx0l).trans hx0
          have hxAl := (Array.getElem?_eq_some_iff.1 hxA).1
          have hbA := hb0.trans (Below.mono hR hb0.size)
          have hBA := hB0.below hR
          have hoks := firstR_o hq0.out hq1.out ha
          have haH := Lib.hid ha
          clear ha hR
          have q := inB_iff.1 hq1.out
          have hVl := Lib.hid hVd.h24
          go_wp2_with fail
          obtain ⟨W5, hW5⟩ : ∃ W5, wA = W5 := ⟨_, rfl⟩
          rw [hW5] at hC hxA hxAl hbA hBA ⊢
          clear hW5
          refine wp_loop (FiIR w B s ld la lc W5) (fun act _ => fiM B.tides.length 10 act) ?_ ?_
          · exact ⟨0, Nat.zero_le _, rfl, rfl, rfl, rfl, rfl, rfl, rfl, Below.refl _ _, fun j hj => absurd hj (by omega)⟩
          · rintro act W6 ⟨n, hn, hsz, hdf, s1, s2, s3, s8, s10, hb6, hno⟩
            rw [act_eta act 40 hsz hdf]
            simp only [show List.range 40 = [0, 1, 2, 3, 4, 5, 6, 7, 8, 9, 10, 11, 12, 13, 14, 15, 16, 17, 18, 19, 20, 21, 22, 23, 24, 25, 26, 27, 28, 29, 30, 31, 32, 33, 34, 35, 36, 37, 38, 39] from rfl, List.map_cons, List.map_nil, s1, s2, s3, s8, s10]
            clear s1 s2 s3 s8 s10
            have hx6 := (hb6.block _ hxAl).trans hxA
            have hxc := cells_of hx6
            have hxl := (Array.getElem?_eq_some_iff.1 hx6).1
            have hb7 := hbA.trans (hb6.mono hbA.size)
            by_cases hlt : n < B.tides.length
            · have hlt' : (n : Int) < (B.tides.length : Int) := by omega
              have hC6 := (hC.same (Same.of_below hb6)).up hb6.size
              have hB6 := hBA.below hb6
              have hkc := kind_cases hVd hcc (s := s) (ld := ld) (hr := n) (by omega) hlt'
              go_wp2_with (refine ld30 rfl _ rfl _ _ rfl hx6 rfl ?_)
              refine (lands92_v hB6 hC6 hVd hcc hq0.out (by omega) hlt' q.1 q.2).mono ?_
              rintro e w2 ⟨rfl, hb2⟩
              have hb3 := hb7.trans (hb2.mono hb7.size)
              have hb8 := hb6.trans (hb2.mono hb6.size)
              rcases hkc with ⟨hs, hk⟩ | ⟨hs, _, hk⟩ | ⟨hs, _, hk⟩
              · rw [hk]
                have hf := Lib.hid (firstO_at (B := B) (s := s) (ld := ld) hlt hs hno)
                clear hs hk hno
                go_wp2_with fail
                refine bodyPost_ret (results_tmp2 rfl _ _) rfl ⟨by rw [hoks.out, hf.out]; rfl, hb3⟩
              · rw [hk]
                have hno2 := first_next (B := B) (s := s) (ld := ld) hno hs
                clear hs hk hno
                have h24 := hVl.out
                go_wp2_with fail
                refine ⟨⟨n + 1, by omega, rfl, rfl, rfl, rfl, rfl, rfl, congrArg (Value.int .i64) (Int.natCast_succ n).symm, hb8, hno2⟩, fiM_lt hlt rfl rfl⟩
              · rw [hk]
                have hno2 := first_next (B := B) (s := s) (ld := ld) hno hs
                clear hs hk hno
                have h24 := hVl.out
                go_wp2_with fail
                refine ⟨⟨n + 1, by omega, rfl, rfl, rfl, rfl, rfl, rfl, congrArg (Value.int .i64) (Int.natCast_succ n).symm, hb8, hno2⟩, fiM_lt hlt rfl rfl⟩
            · have hlt' : ¬ (n : Int) < (B.tides.length : Int) := by omega
              have hf := Lib.hid (firstO_none (B := B) (s := s) (ld := ld) (fun j hj => hno j (by omega)))
              clear hno
              go_wp2_with fail
              refine bodyPost_ret (results_tmp2 rfl _ _) rfl ⟨by rw [hoks.out, hf.out]; rfl, hb7⟩
        · have hne : (askE B true != 0) = true := by simpa using ha
          have hfin := firstR_e hq0.out hq1.out ha
          clear ha
          have hbA := hb0.trans (Below.mono hR hb0.size)
          clear hR
          go_wp2_with fail
          refine bodyPost_ret (results_tmp2 rfl _ _) rfl ⟨by rw [hfin.out]; rfl, hbA⟩
theorem firstRef_v {B : Book} {v : Value} {w : World} (hB : BookV w v B) (s ld : Int) : Calls Tryd.prog 65 #[v, i64 s, i64 ld] w (FirstPost B s ld w) := by
  obtain ⟨tb, tq, ta, tc, sb, sq, sa, sc, rfl, hT, hS⟩ := hB
  exact firstRef_any B ta tc sa sc s ld w ⟨tb, tq, ta, tc, sb, sq, sa, sc, rfl, hT, hS⟩
set_option maxRecDepth 100000 in
set_option maxHeartbeats 8000000 in
theorem bothRef_any (B : Book) (ta : Option Addr) (tc : Nat) (sa : Option Addr) (sc : Nat) (ld : Int) (w : World) (hB : BookV w (bookVal B ta tc sa sc) B) : Calls Tryd.prog 66 #[bookVal B ta tc sa sc, i64 ld] w (BothVPost B ld w) := by
  have hb0 : Below w.heap.size w (w.alloc (.cells (bookCells B ta tc sa sc) 30)) := (Below.refl _ w).alloc (Nat.le_refl _) _
  have hx0 : (w.alloc (.cells (bookCells B ta tc sa sc) 30)).heap[w.heap.size]? = some (.cells (bookCells B ta tc sa sc) 30 (0, 0)) := heap_alloc_new w _
  have hx0l := (Array.getElem?_eq_some_iff.1 hx0).1
  have hB0 := hB.below hb0
  cases hq0 : inB ld 0 200
  · replace hq0 := Lib.hid hq0
    have hne : (askE B false != 0) = true := ask_false_ne B
    have hfin := bothR_f0 (B := B) hq0.out
    go_enter Tryd.func66, Tryd.ntmps66
    go_wp2_with fail
    refine rg_region rdBo1f pureBo1f (gBo1f B ta tc sa sc ld) BR (by kernel_rfl) (by kernel_rfl) (fun n => BR.drawn _ n) BR.refl (fun _ _ _ => BR.trans) ?_ ?_ ?_
    · intro i hi vs wA wB hG hR
      match i, hi, hG with
      | 0, _, hG => exact hG
      | 1, _, hG => exact hG
      | 2, _, hG => exact hG
      | 3, _, hG => obtain ⟨b, a, l, c, h1, h2, h3⟩ := hG; exact ⟨b, a, l, c, h1, (h2.same (Same.of_below hR)).up (Below.size hR), h3⟩
      | 4, _, hG => obtain ⟨b, a, l, c, h1, h2, h3⟩ := hG; exact ⟨b, a, l, c, h1, (h2.same (Same.of_below hR)).up (Below.size hR), h3⟩
      | 5, _, hG => obtain ⟨b, a, l, c, h1, h2, h3⟩ := hG; exact ⟨b, a, l, c, h1, (h2.same (Same.of_below hR)).up (Below.size hR), h3⟩
      | 6, _, hG => exact hG
      | 7, _, hG => obtain ⟨b, a, l, c, h1, h2, h3⟩ := hG; exact ⟨b, a, l, c, h1, (h2.same (Same.of_below hR)).up (Below.size hR), h3⟩
      | 8, _, hG => exact hG
      | _ + 9, _, _ => trivial
    · intro i op ho act wA hR hF hD
      have sz : act.tmps.size = 47 := hF.size
      match i, ho, hD with
      | 0, ho, hD =>
        cases ho
        have e2 := slot_tmps (show slotOf act 2 = .pointer (some ⟨w.heap.size, 0, none⟩) from hF.slot 2 (by kernel_rfl))
        refine rgw_val (wanted_none rfl) (.agg (bookCells B ta tc sa sc)) (by exact ex_load_row (a := act) 30 (.tmp 2) rfl w.heap.size (show slotOf act 2 = .pointer (some ⟨w.heap.size, 0, none⟩) from hF.slot 2 (by kernel_rfl)) 30 _ (0, 0) _ ((Below.block hR _ hx0l).trans hx0) Tryd.underlying30 rfl (by rw [size30]; rfl)) (BR.refl _) ?_
        exact congrArg (fun v => [v]) (slotOf_same act 11 _ (by omega))
      | 1, ho, hD =>
        cases ho
        have e1 := slot_tmps (show slotOf act 1 = i64 ld from hF.slot 1 (by kernel_rfl))
        refine rgw_val (wanted_none rfl) (i64 ld) (by simp [go_sem, e1]) (BR.refl _) ?_
        exact congrArg (fun v => [v]) (slotOf_same act 12 _ (by omega))
      | 2, ho, hD =>
        cases ho
        have e12 := slot_tmps (List.cons.inj (hD 1 (by decide))).1
        refine rgw_call (wanted_none rfl) 91 #[i64 ld] (by simp [go_sem, e12]) rfl ?_
        refine (isLoadR_any _ _).mono ?_
        rintro e wB ⟨rfl, rfl⟩
        rw [hq0.out]
        exact ⟨_, rfl, BR.refl _, congrArg (fun v => [v]) (slotOf_same act 13 _ (by omega))⟩
      | 3, ho, hD =>
        cases ho
        have e11 := slot_tmps (List.cons.inj (hD 0 (by decide))).1
        have e13 := slot_tmps (List.cons.inj (hD 2 (by decide))).1
        refine rgw_call (wanted_none rfl) 88 #[bookVal B ta tc sa sc, .bool false] (by simp [go_sem, e11, e13]) rfl ?_
        refine (askedR_v (hB0.below hR) false).mono ?_
        rintro e wB ⟨b, a, l, c, rfl, hb, hC, hl⟩
        exact ⟨_, rfl, hb, b, a, l, c, congrArg (fun v => [v]) (slotOf_same act 14 _ (by omega)), hC, hl⟩
      | 4, ho, hD =>
        cases ho
        obtain ⟨b, a, l, c, dt, hC, hl⟩ := hD 3 (by decide)
        have es := slot_tmps (List.cons.inj dt).1
        refine rgw_val (wanted_none rfl) (.tuple #[.slice a (List.length l) c, i64 (askE B false)]) (by simp [go_sem, es]) (BR.refl _) ?_
        exact ⟨b, a, l, c, congrArg (fun v => [v]) (slotOf_same act 10 _ (by omega)), hC, hl⟩
      | 5, ho, hD =>
        cases ho
        obtain ⟨b, a, l, c, dt, hC, hl⟩ := hD 4 (by decide)
        have es := slot_tmps (List.cons.inj dt).1
        refine rgw_val (wanted_none rfl) (.slice a (List.length l) c) (by simp [go_sem, es]) (BR.refl _) ?_
        exact ⟨b, a, l, c, congrArg (fun v => [v]) (slotOf_same act 15 _ (by omega)), hC, hl⟩
      | 6, ho, hD =>
        cases ho
        obtain ⟨b, a, l, c, dt, hC, hl⟩ := hD 4 (by decide)
        have es := slot_tmps (List.cons.inj dt).1
        refine rgw_val (wanted_none rfl) (i64 (askE B false)) (by simp [go_sem, es]) (BR.refl _) ?_
        exact congrArg (fun v => [v]) (slotOf_same act 16 _ (by omega))
      | 7, ho, hD =>
        cases ho
        obtain ⟨b, a, l, c, dt, hC, hl⟩ := hD 5 (by decide)
        have es := slot_tmps (List.cons.inj dt).1
        refine rgw_val (wanted_none rfl) (.slice a (List.length l) c) (by simp [go_sem, es]) (BR.refl _) ?_
        exact ⟨b, a, l, c, congrArg (fun v => [v]) (slotOf_same act 6 _ (by omega)), hC, hl⟩
      | 8, ho, hD =>
        cases ho
        have e16 := slot_tmps (List.cons.inj (hD 6 (by decide))).1
        refine rgw_val (wanted_none rfl) (i64 (askE B false)) (by simp [go_sem, e16]) (BR.refl _) ?_
        exact congrArg (fun v => [v]) (slotOf_same act 7 _ (by omega))
      | _ + 9, ho, _ => cases ho
    · intro act wA hR hF hA
      have f1 : slotOf act 1 = i64 ld := hF.slot 1 (by kernel_rfl)
      have f2 : slotOf act 2 = .pointer (some ⟨w.heap.size, 0, none⟩) := hF.slot 2 (by kernel_rfl)
      have f4 : slotOf act 4 = .slice none 0 0 := hF.slot 4 (by kernel_rfl)
      have f5 : slotOf act 5 = i64 0 := hF.slot 5 (by kernel_rfl)
      obtain ⟨lb, la, l, lc, d6, hC, hl⟩ := hA 7 (by decide)
      have f6 : slotOf act 6 = .slice la l.length lc := (List.cons.inj d6).1
      have f7 : slotOf act 7 = i64 (askE B false) := (List.cons.inj (hA 8 (by decide))).1
      have f11 : slotOf act 11 = .agg (bookCells B ta tc sa sc) := (List.cons.inj (hA 0 (by decide))).1
      have f12 : slotOf act 12 = i64 ld := (List.cons.inj (hA 1 (by decide))).1
      have f13 : slotOf act 13 = .bool false := (List.cons.inj (hA 2 (by decide))).1
      have f16 : slotOf act 16 = i64 (askE B false) := (List.cons.inj (hA 6 (by decide))).1
      rw [act_eta act 47 hF.size hF.defers]
      simp only [show List.range 47 = [0, 1, 2, 3, 4, 5, 6, 7, 8, 9, 10, 11, 12, 13, 14, 15, 16, 17, 18, 19, 20, 21, 22, 23, 24, 25, 26, 27, 28, 29, 30, 31, 32, 33, 34, 35, 36, 37, 38, 39, 40, 41, 42, 43, 44, 45, 46] from rfl, List.map_cons, List.map_nil, f1, f2, f4, f5, f6, f7, f11, f12, f13, f16]
      clear hA hF f1 f2 f4 f5 f6 f7 f11 f12 f13 f16
      have hbA := hb0.trans (Below.mono hR hb0.size)
      clear hR
      go_wp2_with fail
      refine bodyPost_ret (results_tmp2 rfl _ _) rfl ⟨_, by rw [hfin.out]; rfl, hbA, by rw [hfin.out]; exact listV_nil _⟩
  · replace hq0 := Lib.hid hq0
    go_enter Tryd.func66, Tryd.ntmps66
    go_wp2_with fail
    refine rg_region rdBo1t pureBo1t (gBo1t B ta tc sa sc ld) BR (by kernel_rfl) (by kernel_rfl) (fun n => BR.drawn _ n) BR.refl (fun _ _ _ => BR.trans) ?_ ?_ ?_
    · intro i hi vs wA wB hG hR
      match i, hi, hG with
      | 0, _, hG => exact hG
      | 1, _, hG => exact hG
      | 2, _, hG => exact hG
      | 3, _, hG => obtain ⟨b, a, l, c, h1, h2, h3⟩ := hG; exact ⟨b, a, l, c, h1, (h2.same (Same.of_below hR)).up (Below.size hR), h3⟩
      | 4, _, hG => obtain ⟨b, a, l, c, h1, h2, h3⟩ := hG; exact ⟨b, a, l, c, h1, (h2.same (Same.of_below hR)).up (Below.size hR), h3⟩
      | 5, _, hG => obtain ⟨b, a, l, c, h1, h2, h3⟩ := hG; exact ⟨b, a, l, c, h1, (h2.same (Same.of_below hR)).up (Below.size hR), h3⟩
      | 6, _, hG => exact hG
      | 7, _, hG => obtain ⟨b, a, l, c, h1, h2, h3⟩ := hG; exact ⟨b, a, l, c, h1, (h2.same (Same.of_below hR)).up (Below.size hR), h3⟩
      | 8, _, hG => exact hG
      | _ + 9, _, _ => trivial
    · intro i op ho act wA hR hF hD
      have sz : act.tmps.size = 47 := hF.size
      match i, ho, hD with
      | 0, ho, hD =>
        cases ho
        have e2 := slot_tmps (show slotOf act 2 = .pointer (some ⟨w.heap.size, 0, none⟩) from hF.slot 2 (by kernel_rfl))
        refine rgw_val (wanted_none rfl) (.agg (bookCells B ta tc sa sc)) (by exact ex_load_row (a := act) 30 (.tmp 2) rfl w.heap.size (show slotOf act 2 = .pointer (some ⟨w.heap.size, 0, none⟩) from hF.slot 2 (by kernel_rfl)) 30 _ (0, 0) _ ((Below.block hR _ hx0l).trans hx0) Tryd.underlying30 rfl (by rw [size30]; rfl)) (BR.refl _) ?_
        exact congrArg (fun v => [v]) (slotOf_same act 11 _ (by omega))
      | 1, ho, hD =>
        cases ho
        have e1 := slot_tmps (show slotOf act 1 = i64 ld from hF.slot 1 (by kernel_rfl))
        refine rgw_val (wanted_none rfl) (i64 ld) (by simp [go_sem, e1]) (BR.refl _) ?_
        exact congrArg (fun v => [v]) (slotOf_same act 12 _ (by omega))
      | 2, ho, hD =>
        cases ho
        have e12 := slot_tmps (List.cons.inj (hD 1 (by decide))).1
        refine rgw_call (wanted_none rfl) 91 #[i64 ld] (by simp [go_sem, e12]) rfl ?_
        refine (isLoadR_any _ _).mono ?_
        rintro e wB ⟨rfl, rfl⟩
        rw [hq0.out]
        exact ⟨_, rfl, BR.refl _, congrArg (fun v => [v]) (slotOf_same act 13 _ (by omega))⟩
      | 3, ho, hD =>
        cases ho
        have e11 := slot_tmps (List.cons.inj (hD 0 (by decide))).1
        have e13 := slot_tmps (List.cons.inj (hD 2 (by decide))).1
        refine rgw_call (wanted_none rfl) 88 #[bookVal B ta tc sa sc, .bool true] (by simp [go_sem, e11, e13]) rfl ?_
        refine (askedR_v (hB0.below hR) true).mono ?_
        rintro e wB ⟨b, a, l, c, rfl, hb, hC, hl⟩
        exact ⟨_, rfl, hb, b, a, l, c, congrArg (fun v => [v]) (slotOf_same act 14 _ (by omega)), hC, hl⟩
      | 4, ho, hD =>
        cases ho
        obtain ⟨b, a, l, c, dt, hC, hl⟩ := hD 3 (by decide)
        have es := slot_tmps (List.cons.inj dt).1
        refine rgw_val (wanted_none rfl) (.tuple #[.slice a (List.length l) c, i64 (askE B true)]) (by simp [go_sem, es]) (BR.refl _) ?_
        exact ⟨b, a, l, c, congrArg (fun v => [v]) (slotOf_same act 10 _ (by omega)), hC, hl⟩
      | 5, ho, hD =>
        cases ho
        obtain ⟨b, a, l, c, dt, hC, hl⟩ := hD 4 (by decide)
        have es := slot_tmps (List.cons.inj dt).1
        refine rgw_val (wanted_none rfl) (.slice a (List.length l) c) (by simp [go_sem, es]) (BR.refl _) ?_
        exact ⟨b, a, l, c, congrArg (fun v => [v]) (slotOf_same act 15 _ (by omega)), hC, hl⟩
      | 6, ho, hD =>
        cases ho
        obtain ⟨b, a, l, c, dt, hC, hl⟩ := hD 4 (by decide)
        have es := slot_tmps (List.cons.inj dt).1
        refine rgw_val (wanted_none rfl) (i64 (askE B true)) (by simp [go_sem, es]) (BR.refl _) ?_
        exact congrArg (fun v => [v]) (slotOf_same act 16 _ (by omega))
      | 7, ho, hD =>
        cases ho
        obtain ⟨b, a, l, c, dt, hC, hl⟩ := hD 5 (by decide)
        have es := slot_tmps (List.cons.inj dt).1
        refine rgw_val (wanted_none rfl) (.slice a (List.length l) c) (by simp [go_sem, es]) (BR.refl _) ?_
        exact ⟨b, a, l, c, congrArg (fun v => [v]) (slotOf_same act 6 _ (by omega)), hC, hl⟩
      | 8, ho, hD =>
        cases ho
        have e16 := slot_tmps (List.cons.inj (hD 6 (by decide))).1
        refine rgw_val (wanted_none rfl) (i64 (askE B true)) (by simp [go_sem, e16]) (BR.refl _) ?_
        exact congrArg (fun v => [v]) (slotOf_same act 7 _ (by omega))
      | _ + 9, ho, _ => cases ho
    · intro act wA hR hF hA
      have f1 : slotOf act 1 = i64 ld := hF.slot 1 (by kernel_rfl)
      have f2 : slotOf act 2 = .pointer (some ⟨w.heap.size, 0, none⟩) := hF.slot 2 (by kernel_rfl)
      have f4 : slotOf act 4 = .slice none 0 0 := hF.slot 4 (by kernel_rfl)
      have f5 : slotOf act 5 = i64 0 := hF.slot 5 (by kernel_rfl)
      obtain ⟨lb, la, l, lc, d6, hC, hl⟩ := hA 7 (by decide)
      have f6 : slotOf act 6 = .slice la l.length lc := (List.cons.inj d6).1
      have f7 : slotOf act 7 = i64 (askE B true) := (List.cons.inj (hA 8 (by decide))).1
      have f11 : slotOf act 11 = .agg (bookCells B ta tc sa sc) := (List.cons.inj (hA 0 (by decide))).1
      have f12 : slotOf act 12 = i64 ld := (List.cons.inj (hA 1 (by decide))).1
      have f13 : slotOf act 13 = .bool true := (List.cons.inj (hA 2 (by decide))).1
      have f16 : slotOf act 16 = i64 (askE B true) := (List.cons.inj (hA 6 (by decide))).1
      rw [act_eta act 47 hF.size hF.defers]
      simp only [show List.range 47 = [0, 1, 2, 3, 4, 5, 6, 7, 8, 9, 10, 11, 12, 13, 14, 15, 16, 17, 18, 19, 20, 21, 22, 23, 24, 25, 26, 27, 28, 29, 30, 31, 32, 33, 34, 35, 36, 37, 38, 39, 40, 41, 42, 43, 44, 45, 46] from rfl, List.map_cons, List.map_nil, f1, f2, f4, f5, f6, f7, f11, f12, f13, f16]
      clear hA hF f1 f2 f4 f5 f6 f7 f11 f12 f13 f16
      by_cases ha : askE B true = 0
      · obtain rfl := hl ha
        have hne : (askE B true != 0) = false := by rw [ha]; rfl
        have hVd := valid_iff.1 (ask_zero ha).1
        have hcc : ∃ f, CC B [] f := (ask_cases (ask_zero ha).1).elim (fun h => by rw [h.2] at ha; cases ha) (fun h => h.1)
        have hxA := (Below.block hR _ hx0l).trans hx0
        have hxAl := (Array.getElem?_eq_some_iff.1 hxA).1
        have hbA := hb0.trans (Below.mono hR hb0.size)
        have hBA := hB0.below hR
        have hoks := bothR_o hq0.out ha
        have haH := Lib.hid ha
        clear ha hR
        have q := inB_iff.1 hq0.out
        have hVl := hVd.h24
        obtain ⟨z, hze⟩ : ∃ z, wA.heap.size = z := ⟨_, rfl⟩
        have hown0 : (wA.alloc (.cells #[] 3)).ownsRow z 3 1 (.slice (some ⟨z, 0, none⟩) 0 0) 0 [] := ⟨rfl, .inr ⟨_, 0, _, rfl, Nat.le_refl _, hze ▸ heap_alloc_new wA _, Nat.le_refl _, Nat.zero_le _, rfl, rfl⟩⟩
        have hb5 : Below z wA (wA.alloc (.cells #[] 3)) := (Below.refl _ wA).alloc (Nat.le_of_eq hze.symm) _
        have hz5 := hb5.size
        have hxz := hxAl
        have hCz : CansAt z wA lb 0 la (cansB B) := hze ▸ hC
        have hzA : z ≤ wA.heap.size := Nat.le_of_eq hze.symm
        rw [hze] at hxz
        have hz6 : z ≤ (wA.alloc (.cells #[] 3)).heap.size := Nat.le_trans hzA hb5.size
        clear hC hz5
        go_wp2_with fail
        refine wp_loop (BoIR w B ld la lc z wA) (fun act _ => fiM B.tides.length 9 act) ?_ ?_
        · exact ⟨0, _, Nat.zero_le _, rfl, rfl, rfl, rfl, rfl, rfl, rfl, hz6, hb5, hown0⟩
        · clear hown0 hb5 hz6
          rintro act W6 ⟨n, v, hn, hsz, hdf, s1, s2, s6, s8, s9, hz6, hb6, hown⟩
          rw [act_eta act 47 hsz hdf]
          simp only [show List.range 47 = [0, 1, 2, 3, 4, 5, 6, 7, 8, 9, 10, 11, 12, 13, 14, 15, 16, 17, 18, 19, 20, 21, 22, 23, 24, 25, 26, 27, 28, 29, 30, 31, 32, 33, 34, 35, 36, 37, 38, 39, 40, 41, 42, 43, 44, 45, 46] from rfl, List.map_cons, List.map_nil, s1, s2, s6, s8, s9]
          clear s1 s2 s6 s8 s9
          have hx6 := (hb6.block _ hxz).trans hxA
          have hxc := cells_of hx6
          have hxl := (Array.getElem?_eq_some_iff.1 hx6).1
          have hb7 := hbA.trans (hb6.mono (by rw [← hze]; exact hbA.size))
          have hbl := bothL_len B ld n
          by_cases hlt : n < B.tides.length
          · have hlt' : (n : Int) < (B.tides.length : Int) := by omega
            have hC6 := (hCz.same (Same.of_below hb6)).up hz6
            have hB6 := hBA.below (hze.symm ▸ hb6)
            have hsucc := bothL_succ B ld n
            go_wp2_with (refine ld30 rfl _ rfl _ _ rfl hx6 rfl ?_)
            refine (lands92_v hB6 hC6 hVd hcc (s := 0) rfl (by omega) hlt' q.1 q.2).mono ?_
            rintro e w2 ⟨rfl, hb2⟩
            have hx7 := (hb2.block _ (Array.getElem?_eq_some_iff.1 hx6).1).trans hx6
            have hb8 := hb6.trans (hb2.mono hz6)
            have hz7 := Nat.le_trans hz6 hb2.size
            have hown7 := ownsRow_below hown hb2
            have hC7 := (hC6.same (Same.of_below hb2)).up hb2.size
            have hB7 := hB6.below hb2
            clear hx6 hxc hxl hb6 hown hC6 hB6
            rcases kind_cases hVd hcc (s := 0) (ld := ld) (hr := n) (by omega) hlt' with ⟨hs, hk⟩ | ⟨hs, _, hk⟩ | ⟨hs, _, hk⟩
            · rw [hk]
              rw [hs, Bool.true_and] at hsucc
              clear hs hk
              go_wp2_with (refine ld30h (by rfl) _ rfl _ _ rfl hx7 rfl ?_)
              refine (lands92_v hB7 hC7 hVd hcc (s := 1) rfl (by omega) hlt' q.1 q.2).mono ?_
              rintro e w3 ⟨rfl, hb3⟩
              have hb9 := hb8.trans (hb3.mono hz7)
              have hz8 := Nat.le_trans hz7 hb3.size
              have hown8 := ownsRow_below hown7 hb3
              rcases kind_cases hVd hcc (s := 1) (ld := ld) (hr := n) (by omega) hlt' with ⟨hs, hk⟩ | ⟨hs, _, hk⟩ | ⟨hs, _, hk⟩
              · rw [hk]
                rw [hs, if_pos rfl] at hsucc
                replace hsucc := Lib.hid hsucc
                clear hs hk
                obtain ⟨i0, hi, hi1, hi2, hi3⟩ := info_parts info3'
                go_wp2_with (at_builtin; refine wpList_append_own _ rfl _ _ 40 rfl z 3 i0 (i64 0) 1 8 Tryd.underlying40 hi hi1 hi2 hi3 rfl (by decide) v _ _ rfl (hown8.alloc _) ⟨w3.heap.size, 0, none⟩ 1 1 [i64 n] rfl rfl (cell_one_new _ _ _) (by simp [Value.oneCell']) (by unfold maxLen; omega) (by omega) (by simp; omega) ?_; intro v' w4 hown' hgrow hnil)
                have hb10 := (hb9.alloc hz8 (.cells #[i64 n] 3)).grown hgrow (by simp; omega) (fun j e => (hown8.lt j e).1)
                refine ⟨⟨n + 1, v', by omega, rfl, rfl, rfl, rfl, rfl, rfl, congrArg (Value.int .i64) (Int.natCast_succ n).symm, Nat.le_trans (by simp; omega) hgrow.size, hb10, by rw [hsucc.out]; simpa using hown'⟩, fiM_lt hlt rfl rfl⟩
              · rw [hk]
                rw [hs, if_neg (by decide), List.append_nil] at hsucc
                replace hsucc := Lib.hid hsucc
                clear hs hk
                go_wp2_with fail
                refine ⟨⟨n + 1, _, by omega, rfl, rfl, rfl, rfl, rfl, rfl, congrArg (Value.int .i64) (Int.natCast_succ n).symm, hz8, hb9, by rw [hsucc.out]; exact hown8⟩, fiM_lt hlt rfl rfl⟩
              · rw [hk]
                rw [hs, if_neg (by decide), List.append_nil] at hsucc
                replace hsucc := Lib.hid hsucc
                clear hs hk
                go_wp2_with fail
                refine ⟨⟨n + 1, _, by omega, rfl, rfl, rfl, rfl, rfl, rfl, congrArg (Value.int .i64) (Int.natCast_succ n).symm, hz8, hb9, by rw [hsucc.out]; exact hown8⟩, fiM_lt hlt rfl rfl⟩
            · rw [hk]
              rw [hs, Bool.false_and, if_neg (by decide), List.append_nil] at hsucc
              replace hsucc := Lib.hid hsucc
              clear hs hk
              go_wp2_with fail
              refine ⟨⟨n + 1, _, by omega, rfl, rfl, rfl, rfl, rfl, rfl, congrArg (Value.int .i64) (Int.natCast_succ n).symm, hz7, hb8, by rw [hsucc.out]; exact hown7⟩, fiM_lt hlt rfl rfl⟩
            · rw [hk]
              rw [hs, Bool.false_and, if_neg (by decide), List.append_nil] at hsucc
              replace hsucc := Lib.hid hsucc
              clear hs hk
              go_wp2_with fail
              refine ⟨⟨n + 1, _, by omega, rfl, rfl, rfl, rfl, rfl, rfl, congrArg (Value.int .i64) (Int.natCast_succ n).symm, hz7, hb8, by rw [hsucc.out]; exact hown7⟩, fiM_lt hlt rfl rfl⟩
          · have hlt' : ¬ (n : Int) < (B.tides.length : Int) := by omega
            obtain rfl : n = B.tides.length := by omega
            have hLV : ListV W6 v (bothL B ld B.tides.length) := ListV.of_row hown (by omega)
            go_wp2_with fail
            refine bodyPost_ret (results_tmp2 rfl _ _) rfl ⟨_, by rw [hoks.out]; rfl, hb7, by rw [hoks.out]; exact hLV⟩
      · have hne : (askE B true != 0) = true := by simpa using ha
        have hfin := bothR_e hq0.out ha
        clear ha
        have hbA := hb0.trans (Below.mono hR hb0.size)
        clear hR
        go_wp2_with fail
        refine bodyPost_ret (results_tmp2 rfl _ _) rfl ⟨_, by rw [hfin.out]; rfl, hbA, by rw [hfin.out]; exact listV_nil _⟩
theorem bothRef_v {B : Book} {v : Value} {w : World} (hB : BookV w v B) (ld : Int) : Calls Tryd.prog 66 #[v, i64 ld] w (BothVPost B ld w) := by
  obtain ⟨tb, tq, ta, tc, sb, sq, sa, sc, rfl, hT, hS⟩ := hB
  exact bothRef_any B ta tc sa sc ld w ⟨tb, tq, ta, tc, sb, sq, sa, sc, rfl, hT, hS⟩
end Go.Proofs.YtkbmpkdflgimmaaDoor
