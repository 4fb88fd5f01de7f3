/- The reference's Wrong. -/
import Derived.Test.YtkbmpkdflgimmaaDoorRef14
namespace Go.Proofs.YtkbmpkdflgimmaaDoor
open Go.RowKit Go.Shelf

theorem ok_len {B : Book} (hV : Vld B) (but : List Int) : okB B but = decide (0 < (cansB (lessS B but)).length) := by
  have h := congrArg Prod.fst (rightR_less hV but)
  unfold rightR at h
  rw [if_pos (valid_iff.2 (less_valid hV but))] at h
  have h2 : okB B but = !(cansB (lessS B but)).isEmpty := h.symm
  rw [h2]
  cases cansB (lessS B but) <;> simp
structure WrI (w : World) (m n : Nat) (v : Value) (a : Act) (W0 W : World) : Prop where
  size : a.tmps.size = 44
  defers : a.defers = []
  s1 : slotOf a 1 = .pointer (some ⟨w.heap.size, 0, none⟩)
  s5 : slotOf a 5 = i64 m
  s6 : slotOf a 6 = v
  s7 : slotOf a 7 = i64 n
  hb : Below W0.heap.size W0 W
def WrR (w : World) (B : Book) (P : Nat) (W0 : World) (a : Act) (W : World) : Prop := ∃ (n : Nat) (v : Value), n ≤ P ∧ WrI w B.sounds.length n v a W0 W ∧ ListV W v (bestB B n)
def wrM (P : Nat) (a : Act) : Nat := P - (intOf (slotOf a 7)).toNat
theorem wrM_lt {P i : Nat} {a b : Act} (hi : i < P) (ha : slotOf a 7 = i64 i) (hb : slotOf b 7 = i64 ((i : Int) + 1)) : wrM P b < wrM P a := by
  unfold wrM
  rw [ha, hb]
  show P - ((i : Int) + 1).toNat < P - (i : Int).toNat
  omega
set_option maxRecDepth 100000 in
set_option maxHeartbeats 4000000 in
theorem wrongRef_any (B : Book) (ta : Option Addr) (tc : Nat) (sa : Option Addr) (sc : Nat) (w : World) (hB : BookV w (bookVal B ta tc sa sc) B) : Calls Tryd.prog 67 #[bookVal B ta tc sa sc] w (WrongPost B w) := by
  have hb0 : Below w.heap.size w (w.alloc (.cells (bookCells B ta tc sa sc) 30)) := (Below.refl _ w).alloc (Nat.le_refl _) _
  have hx0 : (w.alloc (.cells (bookCells B ta tc sa sc) 30)).heap[w.heap.size]? = some (.cells (bookCells B ta tc sa sc) 30 (0, 0)) := heap_alloc_new w _
  have hB0 := hB.below hb0
  cases hv : B.valid
  · have hck : Hid (checkE B = 20) := Lib.hid (by unfold checkE; rw [hv]; rfl)
    have hfin : Hid (wrongR B = ([], 20)) := Lib.hid (by unfold wrongR; rw [hv]; rfl)
    clear hv
    go_enter Tryd.func67, Tryd.ntmps67
    go_wp2_with (refine ld30 rfl _ rfl _ _ rfl hx0 rfl ?_)
    refine (checkR_v hB0).mono ?_
    rintro e w1 ⟨rfl, hb1⟩
    rw [hck.out]
    have ha1 := hb0.trans (hb1.mono hb0.size)
    go_wp2_with fail
    refine bodyPost_ret (results_tmp2 rfl _ _) rfl ⟨_, by rw [hfin.out]; rfl, ha1, by rw [hfin.out]; exact listV_nil _⟩
  · have hck : Hid (checkE B = 0) := Lib.hid (by unfold checkE; rw [hv]; rfl)
    have hV := valid_iff.1 hv
    have hfin : Hid (wrongR B = (bestB B (2 ^ B.sounds.length), 0)) := Lib.hid (by unfold wrongR; rw [hv, best_all hV]; rfl)
    have h6 := hV.s6
    clear hv
    obtain ⟨P, hP⟩ : ∃ P : Nat, Hid (2 ^ B.sounds.length = P) := ⟨_, Lib.hid rfl⟩
    have hP64 : P ≤ 64 := by rw [← hP.out]; exact Nat.pow_le_pow_right (n := 2) (by decide) h6
    have hP1 : 1 ≤ P := by rw [← hP.out]; exact Nat.one_le_two_pow
    have hsh0 : ((2 : Int) ^ B.sounds.length) = (P : Int) := by rw [← hP.out]; simp
    have hbst : Hid (bestB B 0 = setL (P - 1) B.sounds.length) := Lib.hid (by rw [← hP.out]; rfl)
    rw [hP.out] at hfin
    go_enter Tryd.func67, Tryd.ntmps67
    go_wp2_with (refine ld30 rfl _ rfl _ _ rfl hx0 rfl ?_)
    refine (checkR_v hB0).mono ?_
    rintro e w1 ⟨rfl, hb1⟩
    rw [hck.out]
    have ha1 := hb0.trans (hb1.mono hb0.size)
    have hx1 := (hb1.block _ (Array.getElem?_eq_some_iff.1 hx0).1).trans hx0
    have hxc1 := cells_of hx1
    have hxl1 := (Array.getElem?_eq_some_iff.1 hx1).1
    have hB1 := hB0.below hb1
    clear hx0 hb0 hB0
    have hc1 : ((P : Int) - 1) = ((P - 1 : Nat) : Int) := by omega
    have hwP : IntKind.i64.wrap (P : Int) = P := wrap_fit (by omega) (by omega)
    go_wp2_with fail
    refine (membersX_any (P - 1) B.sounds.length w1 (by omega) h6).mono ?_
    rintro e w2 ⟨v2, rfl, hb2, hL2⟩
    rw [← hbst.out] at hL2
    have ha2 := ha1.trans (hb2.mono ha1.size)
    have hx2 := (hb2.block _ (Array.getElem?_eq_some_iff.1 hx1).1).trans hx1
    have hB2 := hB1.below hb2
    clear hx1 hxc1 hxl1 hB1 hc1
    go_wp2_with fail
    refine wp_loop (WrR w B P w2) (fun act _ => wrM P act) ?_ ?_
    · exact ⟨0, _, Nat.zero_le _, ⟨rfl, rfl, rfl, rfl, rfl, rfl, Below.refl _ _⟩, hL2⟩
    · clear hL2
      rintro act W3 ⟨n, v, hn, ⟨hsz, hdf, s1, s5, s6, s7, hb3⟩, hL3⟩
      rw [act_eta act 44 hsz hdf]
      simp only [show List.range 44 = [0, 1, 2, 3, 4, 5, 6, 7, 8, 9, 10, 11, 12, 13, 14, 15, 16, 17, 18, 19, 20, 21, 22, 23, 24, 25, 26, 27, 28, 29, 30, 31, 32, 33, 34, 35, 36, 37, 38, 39, 40, 41, 42, 43] from rfl, List.map_cons, List.map_nil, s1, s5, s6, s7]
      clear s1 s5 s6 s7
      have ha3 := ha2.trans (hb3.mono ha2.size)
      by_cases hlt : n < P
      · have hlt' : (n : Int) < (P : Int) := by omega
        have hx3 := (hb3.block _ (Array.getElem?_eq_some_iff.1 hx2).1).trans hx2
        have hB3 := hB2.below hb3
        have hbs := show bestB B (n + 1) = if (betterB (setL n B.sounds.length) (bestB B n) && okB B (setL n B.sounds.length)) = true then setL n B.sounds.length else bestB B n from rfl
        go_wp2_with fail
        refine (membersX_any n B.sounds.length W3 (by omega) h6).mono ?_
        rintro e w4 ⟨v4, rfl, hb4, hL4⟩
        have hL4b := hL3.below hb4
        have hx4 := (hb4.block _ (Array.getElem?_eq_some_iff.1 hx3).1).trans hx3
        have hB4 := hB3.below hb4
        have hb34 := hb3.trans (hb4.mono hb3.size)
        clear hx3 hB3 hL3
        go_wp2_with fail
        refine (better_v hL4 hL4b).mono ?_
        rintro e w5 ⟨rfl, hb5⟩
        have hx5 := (hb5.block _ (Array.getElem?_eq_some_iff.1 hx4).1).trans hx4
        have hB5 := hB4.below hb5
        have hb35 := hb34.trans (hb5.mono hb34.size)
        have hLs5 := hL4.below hb5
        have hLb5 := hL4b.below hb5
        clear hx4 hB4 hL4 hL4b
        cases hbt : betterB (setL n B.sounds.length) (bestB B n)
        · rw [hbt, Bool.false_and, if_neg (by decide)] at hbs
          replace hbs := Lib.hid hbs
          clear hbt
          go_wp2_with fail
          refine ⟨⟨n + 1, _, by omega, ⟨rfl, rfl, rfl, rfl, rfl, congrArg (Value.int .i64) (Int.natCast_succ n).symm, hb35⟩, by rw [hbs.out]; exact hLb5⟩, wrM_lt hlt rfl rfl⟩
        · rw [hbt, Bool.true_and] at hbs
          clear hbt
          go_wp2_with (refine ld30h (by rfl) _ rfl _ _ rfl hx5 rfl ?_)
          refine (without93_v hB5 hV (by omega)).mono ?_
          rintro e w6 ⟨v6, rfl, hb6, hB6⟩
          have hb36 := hb35.trans (hb6.mono hb35.size)
          have hLs6 := hLs5.below hb6
          have hLb6 := hLb5.below hb6
          clear hLs5 hLb5 hx5 hB5
          go_wp2_with fail
          refine (bottomsR_v hB6 (less_valid hV _)).mono ?_
          rintro e w7 ⟨b7, a7, c7, rfl, hb7, _⟩
          have hb37 := hb36.trans (hb7.mono hb36.size)
          have hLs7 := hLs6.below hb7
          have hLb7 := hLb6.below hb7
          clear hLs6 hLb6
          have hok := ok_len hV (setL n B.sounds.length)
          obtain ⟨q, hq⟩ : ∃ q, (cansB (lessS B (setL n B.sounds.length))).length = q := ⟨_, rfl⟩
          rw [hq] at hok ⊢
          clear hq
          cases hokb : okB B (setL n B.sounds.length)
          · rw [hokb] at hbs hok
            rw [if_neg (by decide)] at hbs
            replace hbs := Lib.hid hbs
            have hq0 : ¬ (0 : Int) < (q : Int) := by have := of_decide_eq_false hok.symm; omega
            have hq1 : decide ((q : Int) > 0) = false := decide_eq_false hq0
            clear hokb hok
            go_wp2_with fail
            refine ⟨⟨n + 1, _, by omega, ⟨rfl, rfl, rfl, rfl, rfl, congrArg (Value.int .i64) (Int.natCast_succ n).symm, hb37⟩, by rw [hbs.out]; exact hLb7⟩, wrM_lt hlt rfl rfl⟩
          · rw [hokb] at hbs hok
            rw [if_pos rfl] at hbs
            replace hbs := Lib.hid hbs
            have hq0 : (0 : Int) < (q : Int) := by have := of_decide_eq_true hok.symm; omega
            have hq1 : decide ((q : Int) > 0) = true := decide_eq_true hq0
            clear hokb hok
            go_wp2_with fail
            refine ⟨⟨n + 1, _, by omega, ⟨rfl, rfl, rfl, rfl, rfl, congrArg (Value.int .i64) (Int.natCast_succ n).symm, hb37⟩, by rw [hbs.out]; exact hLs7⟩, wrM_lt hlt rfl rfl⟩
      · have hlt' : ¬ (n : Int) < (P : Int) := by omega
        obtain rfl : n = P := by omega
        go_wp2_with fail
        refine bodyPost_ret (results_tmp2 rfl _ _) rfl ⟨_, by rw [hfin.out]; rfl, ha3, by rw [hfin.out]; exact hL3⟩
theorem wrongRef_v {B : Book} {v : Value} {w : World} (hB : BookV w v B) : Calls Tryd.prog 67 #[v] w (WrongPost B w) := by
  obtain ⟨tb, tq, ta, tc, sb, sq, sa, sc, rfl, hT, hS⟩ := hB
  exact wrongRef_any B ta tc sa sc w ⟨tb, tq, ta, tc, sb, sq, sa, sc, rfl, hT, hS⟩
end Go.Proofs.YtkbmpkdflgimmaaDoor
