/- The contract of the reference's bottoms. (Printed by genref5.py.) -/
import Derived.Test.YtkbmpkdflgimmaaDoorRef4
import Derived.BigRegion
namespace Go.Proofs.YtkbmpkdflgimmaaDoor
open Go.RowKit Go.Shelf

theorem drew2 (W : World) (a b : Obj) : Below W.heap.size W ((W.alloc a).alloc b).drew ∧ ((W.alloc a).alloc b).drew.heap[W.heap.size]? = some a ∧ ((W.alloc a).alloc b).drew.heap[W.heap.size + 1]? = some b := by
  have h : Below W.heap.size W ((W.alloc a).alloc b) := ((Below.refl _ W).alloc (Nat.le_refl _) _).alloc (by simp) _
  exact ⟨⟨h.os, h.tape, h.output, h.size, h.block⟩, (Below.heap_alloc _ _ _ (by simp)).trans (heap_alloc_new W _), heap_alloc2_new W _ _⟩
/-- The first hours can have a height. -/
def canK (B : Book) (f0 f1 : Int) (k : Nat) : Bool := (List.range k).all fun (h : Nat) => !(hts B h (f0, f1)).isEmpty
theorem canK_succ (B : Book) (f0 f1 : Int) (k : Nat) : canK B f0 f1 (k + 1) = (canK B f0 f1 k && !(hts B k (f0, f1)).isEmpty) := by
  unfold canK
  rw [List.range_succ, List.all_append]
  simp
theorem canK_all (B : Book) (f0 f1 : Int) : canK B f0 f1 B.tides.length = canB B (dep B.sounds []) f0 f1 := by
  unfold canK canB
  rw [Bool.eq_iff_iff, List.all_eq_true, List.all_eq_true]
  refine forall_congr' fun h => ?_
  rw [List.mem_range]
  refine forall_congr' fun hlt => ?_
  rw [List.getElem?_eq_getElem hlt]
  unfold hts
  rw [tideAt_nat hlt]
def BottomsPost (B : Book) (w : World) (e : Ending) (w' : World) : Prop := ∃ b a c, e = .returned (.slice a (cansB B).length c) ∧ Below w.heap.size w w' ∧ CansAt w'.heap.size w' b 0 a (cansB B)
theorem flatC_one (l : List (Int × Int)) : ∀ u ∈ flatC l, u.oneCell' = true := by
  intro u hu
  obtain ⟨y, _, h⟩ := List.mem_flatMap.1 hu
  simp at h
  rcases h with rfl | rfl <;> rfl
theorem cans_row {z : Nat} {W : World} {v : Value} {l : List (Int × Int)} (h : W.ownsRow z 117 2 v l.length (flatC l)) (hl : l.length ≤ 1000) : ∃ b a c, v = .slice a l.length c ∧ CansAt W.heap.size W b 0 a l := by
  rcases h.2 with ⟨rfl, h0⟩ | ⟨g, cap, cur, rfl, h3, h4, h5, h6, h7, h8⟩
  · have : l = [] := List.length_eq_zero_iff.1 h0
    subst this
    exact ⟨0, none, 0, rfl, ⟨by simp, fun e => absurd rfl e, fun e => absurd rfl e, fun k hk => by simp at hk, fun k hk => by simp at hk⟩⟩
  · have hc : ∀ j u, (flatC l)[j]? = some u → W.cell? ⟨g, 0 + j, none⟩ = some u := fun j u hu => by
      have := h.cells (g := g) rfl j u hu
      rw [addr_add] at this
      rwa [Nat.zero_add]
    exact ⟨g, _, cap, rfl, ⟨by omega, fun _ => rfl, fun _ => (h.lt g rfl).2, fun k hk => hc _ _ (flatC_get l k hk).1, fun k hk => hc (k * 2 + 1) _ (flatC_get l k hk).2⟩⟩
theorem info117 : (Tryd.prog.info? 117).map (fun i => (i.zero, i.size, i.bytes)) = some (some (.agg #[i64 0, i64 0]), 2, 16) := by kernel_rfl
theorem size117 : (Tryd.prog.info? 117).map (·.size) = some 2 := by kernel_rfl
theorem ld117g {ops : Array Oper} {rest : List Oper} {o : Oper} {a : Act} {w : World} {Q : Exit → Act → World → Prop} (hw : Region.wanted o (yielded ops a.tmps) = true) (x : Operand) (ho : o.op = .load 117 x) (g : Nat) (cs : Array Value) (hx : a.eval x = .pointer (some ⟨g, 0, none⟩)) (hg : w.heap[g]? = some (.cells cs 117 (0, 0))) (hs : cs.size = 2)
    (h : wpList Tryd.prog ops Q rest (a.put o.dst (.agg cs)) w) : wpList Tryd.prog ops Q (o :: rest) a w := by
  unfold wpList
  rw [if_pos hw]
  left
  unfold Oper.wp
  rw [ex_load_row (a := a) 117 x ho g hx 117 cs (0, 0) _ hg Tryd.underlying117 rfl (by rw [size117, hs])]
  exact h
theorem ld30h {ops : Array Oper} {rest : List Oper} {o : Oper} {a : Act} {w : World} {Q : Exit → Act → World → Prop} (hw : Region.wanted o (yielded ops a.tmps) = true) (x : Operand) (ho : o.op = .load 30 x) (g : Nat) (cs : Array Value) (hx : a.eval x = .pointer (some ⟨g, 0, none⟩)) (hg : w.heap[g]? = some (.cells cs 30 (0, 0))) (hs : cs.size = 14)
    (h : wpList Tryd.prog ops Q rest (a.put o.dst (.agg cs)) w) : wpList Tryd.prog ops Q (o :: rest) a w := by
  unfold wpList
  rw [if_pos hw]
  left
  unfold Oper.wp
  rw [ex_load_row (a := a) 30 x ho g hx 30 cs (0, 0) _ hg Tryd.underlying30 rfl (by rw [size30, hs])]
  exact h
/-- What the rounds of the first loop keep; of the second; of the third. -/
structure BoA (w : World) (B : Book) (ta : Option Addr) (tc : Nat) (sa : Option Addr) (sc p q z : Nat) (i : Nat) (v : Value) (a : Act) (W : World) : Prop where
  size : a.tmps.size = 60
  defers : a.defers = []
  s1 : slotOf a 1 = .pointer (some ⟨w.heap.size, 0, none⟩)
  s3 : slotOf a 3 = v
  s4 : slotOf a 4 = .pointer (some ⟨p, 0, none⟩)
  s5 : slotOf a 5 = .pointer (some ⟨q, 0, none⟩)
  s6 : slotOf a 6 = i64 (B.s0.fl + i)
  hz : z ≤ W.heap.size
  hb : Below w.heap.size w W
  hx : W.heap[w.heap.size]? = some (.cells (bookCells B ta tc sa sc) 30 (0, 0))
  hp : W.heap[p]? = some (.cells #[i64 B.s0.fl, i64 B.s0.fh] 24 (0, 0))
  hq : W.heap[q]? = some (.cells #[i64 B.s1.fl, i64 B.s1.fh] 24 (0, 0))
  own : W.ownsRow z 117 2 v (preC0 B (dep B.sounds []) i).length (flatC (preC0 B (dep B.sounds []) i))
structure BoB (w : World) (B : Book) (ta : Option Addr) (tc : Nat) (sa : Option Addr) (sc p q z : Nat) (i j : Nat) (v : Value) (a : Act) (W : World) : Prop where
  size : a.tmps.size = 60
  defers : a.defers = []
  s1 : slotOf a 1 = .pointer (some ⟨w.heap.size, 0, none⟩)
  s3 : slotOf a 3 = v
  s4 : slotOf a 4 = .pointer (some ⟨p, 0, none⟩)
  s5 : slotOf a 5 = .pointer (some ⟨q, 0, none⟩)
  s6 : slotOf a 6 = i64 (B.s0.fl + i)
  s7 : slotOf a 7 = i64 (B.s1.fl + j)
  hz : z ≤ W.heap.size
  hb : Below w.heap.size w W
  hx : W.heap[w.heap.size]? = some (.cells (bookCells B ta tc sa sc) 30 (0, 0))
  hp : W.heap[p]? = some (.cells #[i64 B.s0.fl, i64 B.s0.fh] 24 (0, 0))
  hq : W.heap[q]? = some (.cells #[i64 B.s1.fl, i64 B.s1.fh] 24 (0, 0))
  own : W.ownsRow z 117 2 v (preC0 B (dep B.sounds []) i ++ preC1 B (dep B.sounds []) (B.s0.fl + i) j).length (flatC (preC0 B (dep B.sounds []) i ++ preC1 B (dep B.sounds []) (B.s0.fl + i) j))
structure BoC (w : World) (B : Book) (p q g i j k : Nat) (v : Value) (a : Act) (W9 W : World) : Prop where
  size : a.tmps.size = 60
  defers : a.defers = []
  s1 : slotOf a 1 = .pointer (some ⟨w.heap.size, 0, none⟩)
  s3 : slotOf a 3 = v
  s4 : slotOf a 4 = .pointer (some ⟨p, 0, none⟩)
  s5 : slotOf a 5 = .pointer (some ⟨q, 0, none⟩)
  s6 : slotOf a 6 = i64 (B.s0.fl + i)
  s7 : slotOf a 7 = i64 (B.s1.fl + j)
  s8 : slotOf a 8 = .pointer (some ⟨g, 0, none⟩)
  s9 : slotOf a 9 = .bool (canK B (B.s0.fl + i) (B.s1.fl + j) k)
  s10 : slotOf a 10 = i64 k
  hb : Below W9.heap.size W9 W
def BoAR (w : World) (B : Book) (ta : Option Addr) (tc : Nat) (sa : Option Addr) (sc p q z : Nat) (a : Act) (W : World) : Prop := ∃ (i : Nat) (v : Value), i ≤ (B.s0.fh - B.s0.fl + 1).toNat ∧ BoA w B ta tc sa sc p q z i v a W
def BoBR (w : World) (B : Book) (ta : Option Addr) (tc : Nat) (sa : Option Addr) (sc p q z : Nat) (i : Nat) (a : Act) (W : World) : Prop := ∃ (j : Nat) (v : Value), j ≤ (B.s1.fh - B.s1.fl + 1).toNat ∧ BoB w B ta tc sa sc p q z i j v a W
def boAM (B : Book) (a : Act) : Nat := (B.s0.fh + 1 - intOf (slotOf a 6)).toNat
def boBM (B : Book) (a : Act) : Nat := (B.s1.fh + 1 - intOf (slotOf a 7)).toNat
set_option maxRecDepth 100000 in
set_option maxHeartbeats 8000000 in
theorem bottomsR_any (B : Book) (tb tq : Nat) (ta : Option Addr) (tc : Nat) (sb sq : Nat) (sa : Option Addr) (sc : Nat) (w : World) (hT : SpansAt w.heap.size w tb tq ta B.tides) (hS : SoundsAt w.heap.size w sb sq sa B.sounds) (hV : Vld B) :
    Calls Tryd.prog 84 #[bookVal B ta tc sa sc] w (BottomsPost B w) := by
  have hb0 : Below w.heap.size w (w.alloc (.cells (bookCells B ta tc sa sc) 30)) := (Below.refl _ w).alloc (Nat.le_refl _) _
  have hx0 : (w.alloc (.cells (bookCells B ta tc sa sc) 30)).heap[w.heap.size]? = some (.cells (bookCells B ta tc sa sc) 30 (0, 0)) := heap_alloc_new w _
  have g1 := hV.sh0.fl
  have g2 := hV.sh0.ff
  have g3 := hV.sh0.fh
  have g4 := hV.sh1.fl
  have g5 := hV.sh1.ff
  have g6 := hV.sh1.fh
  have g7 := hV.sh0.fn
  have g8 := hV.sh1.fn
  have h24 := hV.h24
  have hpre1 := fun f0 k => preC1_len B (dep B.sounds []) f0 k
  have hpre0 := fun k => preC0_len B (dep B.sounds []) k ⟨by omega, by omega, by omega, by omega⟩
  go_enter Tryd.func84, Tryd.ntmps84
  go_upto_region 2 with fail
  obtain ⟨W1, hW1⟩ : ∃ W1, w.alloc (.cells (bookCells B ta tc sa sc) 30) = W1 := ⟨_, rfl⟩
  rw [hW1] at hb0 hx0 ⊢
  clear hW1
  have hxc := cells_of hx0
  have hxl := (Array.getElem?_eq_some_iff.1 hx0).1
  go_cut [4, 5] (fun p q wx => ∃ g h, p = .pointer (some ⟨g, 0, none⟩) ∧ q = .pointer (some ⟨h, 0, none⟩) ∧ Below W1.heap.size W1 wx ∧ wx.heap[g]? = some (.cells #[i64 B.s0.fl, i64 B.s0.fh] 24 (0, 0)) ∧ wx.heap[h]? = some (.cells #[i64 B.s1.fl, i64 B.s1.fh] 24 (0, 0)))
  case first =>
    go_region
    · go_wp2_with fail
      go_meet
      case rel =>
        obtain ⟨e1, e2, e3⟩ := drew2 W1 (.cells #[i64 B.s0.fl, i64 B.s0.fh] 24) (.cells #[i64 B.s1.fl, i64 B.s1.fh] 24)
        exact ⟨_, _, rfl, rfl, e1, e2, e3⟩
    · go_wp2_with fail
      go_meet
      case rel =>
        obtain ⟨e1, e2, e3⟩ := drew2 W1 (.cells #[i64 B.s1.fl, i64 B.s1.fh] 24) (.cells #[i64 B.s0.fl, i64 B.s0.fh] 24)
        exact ⟨_, _, rfl, rfl, e1, e3, e2⟩
  case rest =>
    obtain ⟨p, q, rfl, rfl, hbc, hp2, hq2⟩ := hcut
    have hb2 := hb0.trans (hbc.mono hb0.size)
    have hx2 := (hbc.block _ hxl).trans hx0
    clear hxc hxl hb0 hx0 hbc
    obtain ⟨W2, hW2⟩ : ∃ W2, wc = W2 := ⟨_, rfl⟩
    rw [hW2] at hp2 hq2 hb2 hx2 ⊢
    clear hW2
    obtain ⟨z, hze⟩ : ∃ z, W2.heap.size = z := ⟨_, rfl⟩
    have hpz := (Array.getElem?_eq_some_iff.1 hp2).1
    have hqz := (Array.getElem?_eq_some_iff.1 hq2).1
    have hxz := (Array.getElem?_eq_some_iff.1 hx2).1
    have hzz : z ≤ W2.heap.size := Nat.le_of_eq hze.symm
    rw [hze] at hpz hqz hxz
    clear hze
    have hpc := cells_of hp2
    have hpl := (Array.getElem?_eq_some_iff.1 hp2).1
    go_wp2_with fail
    refine wp_loop (BoAR w B ta tc sa sc p q z) (fun act _ => boAM B act) ?_ ?_
    · exact ⟨0, .slice none 0 0, Nat.zero_le _, rfl, rfl, rfl, rfl, rfl, rfl, congrArg (Value.int .i64) (show B.s0.fl = B.s0.fl + ((0 : Nat) : Int) by omega), hzz, hb2, hx2, hp2, hq2, World.ownsRow_nil _ _ _ _⟩
    · clear hpc hpl hb2 hx2 hp2 hq2 hzz
      rintro act W3 ⟨i, v, hi, hsz, hdf, s1, s3, s4, s5, s6, hz3, hb3, hx3, hp3, hq3, hown⟩
      rw [act_eta act 60 hsz hdf]
      simp only [show List.range 60 = [0, 1, 2, 3, 4, 5, 6, 7, 8, 9, 10, 11, 12, 13, 14, 15, 16, 17, 18, 19, 20, 21, 22, 23, 24, 25, 26, 27, 28, 29, 30, 31, 32, 33, 34, 35, 36, 37, 38, 39, 40, 41, 42, 43, 44, 45, 46, 47, 48, 49, 50, 51, 52, 53, 54, 55, 56, 57, 58, 59] from rfl, List.map_cons, List.map_nil, s1, s3, s4, s5, s6]
      have hpc := cells_of hp3
      have hpl := (Array.getElem?_eq_some_iff.1 hp3).1
      by_cases hilt : i < (B.s0.fh - B.s0.fl + 1).toNat
      · have hle : B.s0.fl + (i : Int) ≤ B.s0.fh := by omega
        have hle' : decide (B.s0.fl + (i : Int) ≤ B.s0.fh) = true := decide_eq_true hle
        have hqc := cells_of hq3
        have hql := (Array.getElem?_eq_some_iff.1 hq3).1
        go_wp2_with fail
        refine wp_loop (BoBR w B ta tc sa sc p q z i) (fun act _ => boBM B act) ?_ ?_
        · exact ⟨0, v, Nat.zero_le _, rfl, rfl, rfl, rfl, rfl, rfl, rfl, congrArg (Value.int .i64) (show B.s1.fl = B.s1.fl + ((0 : Nat) : Int) by omega), hz3, hb3, hx3, hp3, hq3, by simpa [preC1] using hown⟩
        · clear hpc hpl hqc hql hb3 hx3 hp3 hq3 hz3 hown
          rintro act W4 ⟨j, v, hj, hsz, hdf, s1, s3, s4, s5, s6, s7, hz4, hb4, hx4, hp4, hq4, hown⟩
          rw [act_eta act 60 hsz hdf]
          simp only [show List.range 60 = [0, 1, 2, 3, 4, 5, 6, 7, 8, 9, 10, 11, 12, 13, 14, 15, 16, 17, 18, 19, 20, 21, 22, 23, 24, 25, 26, 27, 28, 29, 30, 31, 32, 33, 34, 35, 36, 37, 38, 39, 40, 41, 42, 43, 44, 45, 46, 47, 48, 49, 50, 51, 52, 53, 54, 55, 56, 57, 58, 59] from rfl, List.map_cons, List.map_nil, s1, s3, s4, s5, s6, s7]
          have hqc := cells_of hq4
          have hql := (Array.getElem?_eq_some_iff.1 hq4).1
          by_cases hjlt : j < (B.s1.fh - B.s1.fl + 1).toNat
          · have hmle : B.s1.fl + (j : Int) ≤ B.s1.fh := by omega
            have hmle' : decide (B.s1.fl + (j : Int) ≤ B.s1.fh) = true := decide_eq_true hmle
            have hps := preC1_succ B (dep B.sounds []) (B.s0.fl + i) j
            have hpl1 := hpre1 (B.s0.fl + i) j
            have hpl0 := hpre0 i
            have hca := canK_all B (B.s0.fl + i) (B.s1.fl + j)
            go_wp2_with fail
            have hbn : Below W4.heap.size W4 (W4.alloc (.cells #[i64 (B.s0.fl + i), i64 (B.s1.fl + j)] 117)) := (Below.refl _ W4).alloc (Nat.le_refl _) _
            have hg5 := heap_alloc_new W4 (.cells #[i64 (B.s0.fl + i), i64 (B.s1.fl + j)] 117)
            have hx5 := (hbn.block _ (Array.getElem?_eq_some_iff.1 hx4).1).trans hx4
            have hp5 := (hbn.block _ (Array.getElem?_eq_some_iff.1 hp4).1).trans hp4
            have hq5 := (hbn.block _ (Array.getElem?_eq_some_iff.1 hq4).1).trans hq4
            have hb5 := hb4.trans (hbn.mono hb4.size)
            have hown5 := ownsRow_below hown hbn
            have hz5 := Nat.le_trans hz4 hbn.size
            obtain ⟨W5, hW5⟩ : ∃ W5, W4.alloc (.cells #[i64 (B.s0.fl + i), i64 (B.s1.fl + j)] 117) = W5 := ⟨_, rfl⟩
            obtain ⟨g, hge⟩ : ∃ g, W4.heap.size = g := ⟨_, rfl⟩
            rw [hW5] at hg5 hx5 hp5 hq5 hb5 hown5 hz5 ⊢
            rw [hge] at hg5 ⊢
            clear hW5 hge hbn hqc hql hx4 hp4 hq4 hb4 hown hz4
            refine wp_loop (fun act W => ∃ k : Nat, k ≤ B.tides.length ∧ BoC w B p q g i j k v act W5 W) (fun act _ => B.tides.length - (intOf (slotOf act 10)).toNat) ?_ ?_
            · exact ⟨0, Nat.zero_le _, rfl, rfl, rfl, rfl, rfl, rfl, rfl, rfl, rfl, rfl, rfl, Below.refl _ _⟩
            · rintro act W6 ⟨k, hk, hsz, hdf, s1, s3, s4, s5, s6, s7, s8, s9, s10, hb6⟩
              rw [act_eta act 60 hsz hdf]
              simp only [show List.range 60 = [0, 1, 2, 3, 4, 5, 6, 7, 8, 9, 10, 11, 12, 13, 14, 15, 16, 17, 18, 19, 20, 21, 22, 23, 24, 25, 26, 27, 28, 29, 30, 31, 32, 33, 34, 35, 36, 37, 38, 39, 40, 41, 42, 43, 44, 45, 46, 47, 48, 49, 50, 51, 52, 53, 54, 55, 56, 57, 58, 59] from rfl, List.map_cons, List.map_nil, s1, s3, s4, s5, s6, s7, s8, s9, s10]
              have hx6 := (hb6.block _ (Array.getElem?_eq_some_iff.1 hx5).1).trans hx5
              have hg6 := (hb6.block _ (Array.getElem?_eq_some_iff.1 hg5).1).trans hg5
              have hxc := cells_of hx6
              have hxl := (Array.getElem?_eq_some_iff.1 hx6).1
              have hbw6 := hb5.trans (hb6.mono hb5.size)
              by_cases hkl : k < B.tides.length
              · have hlk : (k : Int) < (B.tides.length : Int) := by omega
                have hsucc := Lib.hid (canK_succ B (B.s0.fl + i) (B.s1.fl + j) k)
                cases hck : canK B (B.s0.fl + i) (B.s1.fl + j) k
                · go_wp2_with fail
                  refine ⟨⟨k + 1, by omega, rfl, rfl, rfl, rfl, rfl, rfl, rfl, rfl, rfl, congrArg Value.bool (by rw [hsucc.out, hck]; rfl), congrArg (Value.int .i64) (Int.natCast_succ k).symm, hb6⟩, ?_⟩
                  show B.tides.length - ((k : Int) + 1).toNat < B.tides.length - (k : Int).toNat
                  omega
                · have hckH := Lib.hid hck
                  clear hck
                  have hT6 := (hT.same (Same.of_below hbw6)).up hbw6.size
                  have hS6 := (hS.same (Same.of_below hbw6)).up hbw6.size
                  go_wp2_with (first | (refine ld30h (by rfl) _ rfl _ _ rfl hx6 rfl ?_) | (refine ld117g (by rfl) _ rfl _ _ rfl hg6 rfl ?_))
                  refine (heightsR_any B tb tq ta tc sb sq sa sc (B.s0.fl + i) (B.s1.fl + j) k W6 hT6 hS6 hV hkl ⟨by omega, by omega⟩ ⟨by omega, by omega⟩).mono ?_
                  rintro e w7 ⟨v7, rfl, hb7, hL7⟩
                  obtain ⟨lb, lo, la, lc, rfl, _, _⟩ := hL7
                  have hb67 := hb6.trans (hb7.mono hb6.size)
                  cases hem : (hts B k ((B.s0.fl + i), (B.s1.fl + j))).isEmpty
                  · have hpos : (0 : Int) < ((hts B k ((B.s0.fl + i), (B.s1.fl + j))).length : Int) := by
                      have : (hts B k ((B.s0.fl + i), (B.s1.fl + j))).length ≠ 0 := fun h => by rw [List.length_eq_zero_iff.1 h] at hem; cases hem
                      omega
                    have hps2 : decide ((0 : Int) < ((hts B k ((B.s0.fl + i), (B.s1.fl + j))).length : Int)) = true := decide_eq_true hpos
                    have hemH := Lib.hid hem
                    clear hem
                    go_wp2_with fail
                    refine ⟨⟨k + 1, by omega, rfl, rfl, rfl, rfl, rfl, rfl, rfl, rfl, rfl, congrArg Value.bool (by rw [hsucc.out, hckH.out, hemH.out]; simp only [Bool.not_false, Bool.and_self, decide_eq_true_eq]; omega), congrArg (Value.int .i64) (Int.natCast_succ k).symm, hb67⟩, ?_⟩
                    show B.tides.length - ((k : Int) + 1).toNat < B.tides.length - (k : Int).toNat
                    omega
                  · have hzero : (hts B k ((B.s0.fl + i), (B.s1.fl + j))).length = 0 := by rw [List.isEmpty_iff.1 hem]; rfl
                    have hps2 : decide ((0 : Int) < ((hts B k ((B.s0.fl + i), (B.s1.fl + j))).length : Int)) = false := by rw [hzero]; rfl
                    have hps3 : ¬ (0 : Int) < ((hts B k ((B.s0.fl + i), (B.s1.fl + j))).length : Int) := by rw [hzero]; decide
                    have hemH := Lib.hid hem
                    clear hem hzero
                    go_wp2_with fail
                    refine ⟨⟨k + 1, by omega, rfl, rfl, rfl, rfl, rfl, rfl, rfl, rfl, rfl, congrArg Value.bool (by rw [hsucc.out, hckH.out, hemH.out]; simp only [Bool.not_true, Bool.and_false, decide_eq_false_iff_not]; omega), congrArg (Value.int .i64) (Int.natCast_succ k).symm, hb67⟩, ?_⟩
                    show B.tides.length - ((k : Int) + 1).toNat < B.tides.length - (k : Int).toNat
                    omega
              · have hlk : ¬ (k : Int) < (B.tides.length : Int) := by omega
                obtain rfl : k = B.tides.length := by omega
                have hp6 := (hb6.block _ (Array.getElem?_eq_some_iff.1 hp5).1).trans hp5
                have hq6 := (hb6.block _ (Array.getElem?_eq_some_iff.1 hq5).1).trans hq5
                have hown6 := ownsRow_below hown5 hb6
                have hz6 := Nat.le_trans hz5 hb6.size
                have hw7 : IntKind.i64.wrap (B.s1.fl + j + 1) = B.s1.fl + j + 1 := wrap_fit (by omega) (by omega)
                rw [hca]
                cases hcb : canB B (dep B.sounds []) (B.s0.fl + i) (B.s1.fl + j)
                · have hps2 : Hid ((preC0 B (dep B.sounds []) i ++ preC1 B (dep B.sounds []) (B.s0.fl + i) (j + 1)) = (preC0 B (dep B.sounds []) i ++ preC1 B (dep B.sounds []) (B.s0.fl + i) j)) := Lib.hid (by rw [hps]; simp [extC, hcb])
                  clear hps hca hcb
                  go_wp2_with fail
                  refine ⟨⟨j + 1, v, by omega, rfl, rfl, rfl, rfl, rfl, rfl, rfl, congrArg (Value.int .i64) (show B.s1.fl + (j : Int) + 1 = B.s1.fl + ((j + 1 : Nat) : Int) by omega), hz6, hbw6, hx6, hp6, hq6, by rw [hps2.out]; exact hown6⟩, ?_⟩
                  show (B.s1.fh + 1 - (B.s1.fl + (j : Int) + 1)).toNat < (B.s1.fh + 1 - (B.s1.fl + (j : Int))).toNat
                  omega
                · have hps2 : Hid ((preC0 B (dep B.sounds []) i ++ preC1 B (dep B.sounds []) (B.s0.fl + i) (j + 1)) = (preC0 B (dep B.sounds []) i ++ preC1 B (dep B.sounds []) (B.s0.fl + i) j) ++ [((B.s0.fl + i), (B.s1.fl + j))]) := Lib.hid (by rw [hps]; simp [extC, hcb])
                  clear hps hca hcb
                  obtain ⟨i0, hi0, hi1, hi2, hi3⟩ := info_parts info117
                  have hgl6 := (Array.getElem?_eq_some_iff.1 hg6).1
                  have hgc6 := cells_of hg6
                  have hbn : Below W6.heap.size W6 (W6.alloc (.cells #[i64 (B.s0.fl + i), i64 (B.s1.fl + j)] 117)) := (Below.refl _ W6).alloc (Nat.le_refl _) _
                  have hgn := heap_alloc_new W6 (.cells #[i64 (B.s0.fl + i), i64 (B.s1.fl + j)] 117)
                  have hgc := cells_of hgn
                  have hown7 := ownsRow_below hown6 hbn
                  have hz7 := Nat.le_trans hz6 hbn.size
                  have hnews : ∀ j' u, [i64 (B.s0.fl + i), i64 (B.s1.fl + j)][j']? = some u → (W6.alloc (.cells #[i64 (B.s0.fl + i), i64 (B.s1.fl + j)] 117)).cell? ((⟨W6.heap.size, 0, none⟩ : Addr).add j') = some u := fun j' u hu => by
                    rw [addr_add, hgc]
                    simpa using hu
                  have hb7 := hbw6.trans (hbn.mono hbw6.size)
                  have hx7 := (hbn.block _ (Array.getElem?_eq_some_iff.1 hx6).1).trans hx6
                  have hp7 := (hbn.block _ (Array.getElem?_eq_some_iff.1 hp6).1).trans hp6
                  have hq7 := (hbn.block _ (Array.getElem?_eq_some_iff.1 hq6).1).trans hq6
                  have hcnt : (preC0 B (dep B.sounds []) i ++ preC1 B (dep B.sounds []) (B.s0.fl + i) j).length ≤ 1000 := by rw [List.length_append]; omega
                  go_wp2_with (first | (at_builtin; refine wpList_append_own _ rfl _ _ 111 rfl z 117 i0 (.agg #[i64 0, i64 0]) 2 16 Tryd.underlying111 hi0 hi1 hi2 hi3 rfl (by decide) v _ _ rfl hown7 ⟨W6.heap.size, 0, none⟩ 1 1 [i64 (B.s0.fl + i), i64 (B.s1.fl + j)] rfl rfl hnews (by simp [Value.oneCell']) (by unfold maxLen; omega) (by omega) hz7 ?_; intro v' w2 hown' hgrow _))
                  have hnb : ∀ j, j < z → some j ≠ v.ownBlock := fun j hj e => by have := (hown7.lt _ e.symm).1; omega
                  refine ⟨⟨j + 1, v', by omega, rfl, rfl, rfl, rfl, rfl, rfl, rfl, congrArg (Value.int .i64) (show B.s1.fl + (j : Int) + 1 = B.s1.fl + ((j + 1 : Nat) : Int) by omega), Nat.le_trans hz7 hgrow.size, hb7.grown hgrow (by have := hb7.size; omega) (fun j e => by have := (hown7.lt _ e).1; omega), (hgrow.block _ (by omega) (hnb _ (by omega))).trans hx7, (hgrow.block _ (by omega) (hnb _ (by omega))).trans hp7, (hgrow.block _ (by omega) (hnb _ (by omega))).trans hq7, by rw [hps2.out, List.length_append, flatC_append]; exact hown'⟩, ?_⟩
                  show (B.s1.fh + 1 - (B.s1.fl + (j : Int) + 1)).toNat < (B.s1.fh + 1 - (B.s1.fl + (j : Int))).toNat
                  omega
          · have hmle' : decide (B.s1.fl + (j : Int) ≤ B.s1.fh) = false := decide_eq_false (by omega)
            have hmle : B.s1.fh < B.s1.fl + (j : Int) := by omega
            obtain rfl : j = (B.s1.fh - B.s1.fl + 1).toNat := by omega
            have hps2 : Hid (preC0 B (dep B.sounds []) (i + 1) = preC0 B (dep B.sounds []) i ++ preC1 B (dep B.sounds []) (B.s0.fl + i) (B.s1.fh - B.s1.fl + 1).toNat) := Lib.hid (preC0_succ B (dep B.sounds []) i)
            have hw6 : IntKind.i64.wrap (B.s0.fl + i + 1) = B.s0.fl + i + 1 := wrap_fit (by omega) (by omega)
            go_wp2_with fail
            refine ⟨⟨i + 1, v, by omega, rfl, rfl, rfl, rfl, rfl, rfl, congrArg (Value.int .i64) (show B.s0.fl + (i : Int) + 1 = B.s0.fl + ((i + 1 : Nat) : Int) by omega), hz4, hb4, hx4, hp4, hq4, by rw [hps2.out]; exact hown⟩, ?_⟩
            show (B.s0.fh + 1 - (B.s0.fl + (i : Int) + 1)).toNat < (B.s0.fh + 1 - (B.s0.fl + (i : Int))).toNat
            omega
      · have hle' : decide (B.s0.fl + (i : Int) ≤ B.s0.fh) = false := decide_eq_false (by omega)
        have hle : B.s0.fh < B.s0.fl + (i : Int) := by omega
        obtain rfl : i = (B.s0.fh - B.s0.fl + 1).toNat := by omega
        obtain ⟨b, a, c, rfl, hCA⟩ := cans_row (l := cansB B) hown (by have := hpre0 (B.s0.fh - B.s0.fl + 1).toNat; show (preC0 B (dep B.sounds []) _).length ≤ 1000; omega)
        clear hown
        go_wp2_with fail
        go_ret
        exact ⟨_, _, _, rfl, hb3, hCA⟩
end Go.Proofs.YtkbmpkdflgimmaaDoor
