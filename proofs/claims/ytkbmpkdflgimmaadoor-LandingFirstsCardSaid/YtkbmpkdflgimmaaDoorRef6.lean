/- Contracts of the reference's asked, Right, ends. -/
import Derived.Test.YtkbmpkdflgimmaaDoorRef5
namespace Go.Proofs.YtkbmpkdflgimmaaDoor
open Go.RowKit Go.Shelf

theorem bottomsR_v {B : Book} {v : Value} {w : World} (hB : BookV w v B) (hV : Vld B) : Calls Tryd.prog 84 #[v] w (BottomsPost B w) := by
  obtain ⟨tb, tq, ta, tc, sb, sq, sa, sc, rfl, hT, hS⟩ := hB
  exact bottomsR_any B tb tq ta tc sb sq sa sc w hT hS hV
def AskRPost (B : Book) (is : Bool) (w : World) (e : Ending) (w' : World) : Prop := ∃ b a l c, e = .returned (.tuple #[.slice a (List.length l) c, i64 (askE B is)]) ∧ Below w.heap.size w w' ∧ CansAt w'.heap.size w' b 0 a l ∧ (askE B is = 0 → l = cansB B)
theorem cans_nil (W : World) : CansAt W.heap.size W 0 0 none [] := ⟨by simp, fun e => absurd rfl e, fun e => absurd rfl e, fun k hk => by simp at hk, fun k hk => by simp at hk⟩
set_option maxRecDepth 100000 in
theorem askedR_any (B : Book) (ta : Option Addr) (tc : Nat) (sa : Option Addr) (sc : Nat) (is : Bool) (w : World) (hB : BookV w (bookVal B ta tc sa sc) B) : Calls Tryd.prog 88 #[bookVal B ta tc sa sc, .bool is] w (AskRPost B is w) := by
  have hb0 : Below w.heap.size w (w.alloc (.cells (bookCells B ta tc sa sc) 30)) := (Below.refl _ w).alloc (Nat.le_refl _) _
  have hx0 : (w.alloc (.cells (bookCells B ta tc sa sc) 30)).heap[w.heap.size]? = some (.cells (bookCells B ta tc sa sc) 30 (0, 0)) := heap_alloc_new w _
  have hB0 := hB.below hb0
  cases hv : B.valid
  · have hc : Hid (checkE B = 20) := Lib.hid (by simp [checkE, hv])
    have ha : Hid (askE B is = 20) := Lib.hid (ask_bad hv is)
    clear hv
    go_enter Tryd.func88, Tryd.ntmps88
    go_wp2_with (refine ld30 rfl _ rfl _ _ rfl hx0 rfl ?_)
    refine (checkR_v hB0).mono ?_
    rintro e w1 ⟨rfl, hb1⟩
    rw [hc.out]
    go_wp2_with fail
    refine bodyPost_ret (results_tmp2 rfl _ _) rfl ?_
    exact ⟨0, none, [], 0, by rw [ha.out]; rfl, hb0.trans (hb1.mono hb0.size), cans_nil _, fun h => by rw [ha.out] at h; cases h⟩
  · have hV := valid_iff.1 hv
    have hc : Hid (checkE B = 0) := Lib.hid (by simp [checkE, hv])
    cases is
    · have ha : Hid (askE B false = 21) := Lib.hid (ask_not hv)
      clear hv
      go_enter Tryd.func88, Tryd.ntmps88
      go_wp2_with (refine ld30 rfl _ rfl _ _ rfl hx0 rfl ?_)
      refine (checkR_v hB0).mono ?_
      rintro e w1 ⟨rfl, hb1⟩
      rw [hc.out]
      go_wp2_with fail
      refine bodyPost_ret (results_tmp2 rfl _ _) rfl ?_
      exact ⟨0, none, [], 0, by rw [ha.out]; rfl, hb0.trans (hb1.mono hb0.size), cans_nil _, fun h => by rw [ha.out] at h; cases h⟩
    · have hask : Hid (askE B true = if (cansB B).length = 0 then 22 else 0) := Lib.hid (by
        unfold askE
        rw [hv]
        show (if (cansB B).isEmpty then (22 : Int) else 0) = _
        cases h : cansB B with
        | nil => rfl
        | cons x l => simp)
      clear hv
      go_enter Tryd.func88, Tryd.ntmps88
      go_wp2_with (refine ld30 rfl _ rfl _ _ rfl hx0 rfl ?_)
      refine (checkR_v hB0).mono ?_
      rintro e w1 ⟨rfl, hb1⟩
      rw [hc.out]
      have hx1 := (hb1.block _ (Array.getElem?_eq_some_iff.1 hx0).1).trans hx0
      have hB1 := hB0.below hb1
      have hb1' := hb0.trans (hb1.mono hb0.size)
      go_wp2_with (refine ld30 rfl _ rfl _ _ rfl hx1 rfl ?_)
      refine (bottomsR_v hB1 hV).mono ?_
      rintro e w2 ⟨b, a, c, rfl, hb2, hC⟩
      have hb2' := hb1'.trans (hb2.mono hb1'.size)
      by_cases hz : (cansB B).length = 0
      · have hz2 : (((cansB B).length : Int) == 0) = true := by rw [hz]; rfl
        have ha : Hid (askE B true = 22) := Lib.hid (by rw [hask.out, if_pos hz])
        clear hz hask
        go_wp2_with fail
        refine bodyPost_ret (results_tmp2 rfl _ _) rfl ?_
        exact ⟨0, none, [], 0, by rw [ha.out]; rfl, hb2', cans_nil _, fun h => by rw [ha.out] at h; cases h⟩
      · have hz2 : (((cansB B).length : Int) == 0) = false := by rw [beq_eq_false_iff_ne]; omega
        have ha : Hid (askE B true = 0) := Lib.hid (by rw [hask.out, if_neg hz])
        clear hask
        go_wp2_with fail
        refine bodyPost_ret (results_tmp2 rfl _ _) rfl ?_
        exact ⟨b, a, cansB B, c, by rw [ha.out]; rfl, hb2', hC, fun _ => rfl⟩
theorem askedR_v {B : Book} {v : Value} {w : World} (hB : BookV w v B) (is : Bool) : Calls Tryd.prog 88 #[v, .bool is] w (AskRPost B is w) := by
  obtain ⟨tb, tq, ta, tc, sb, sq, sa, sc, rfl, hT, hS⟩ := hB
  exact askedR_any B ta tc sa sc is w ⟨tb, tq, ta, tc, sb, sq, sa, sc, rfl, hT, hS⟩
set_option maxRecDepth 100000 in
theorem rightRef_any (B : Book) (ta : Option Addr) (tc : Nat) (sa : Option Addr) (sc : Nat) (w : World) (hB : BookV w (bookVal B ta tc sa sc) B) : Calls Tryd.prog 57 #[bookVal B ta tc sa sc] w (RightPost B w) := by
  have hb0 : Below w.heap.size w (w.alloc (.cells (bookCells B ta tc sa sc) 30)) := (Below.refl _ w).alloc (Nat.le_refl _) _
  have hx0 : (w.alloc (.cells (bookCells B ta tc sa sc) 30)).heap[w.heap.size]? = some (.cells (bookCells B ta tc sa sc) 30 (0, 0)) := heap_alloc_new w _
  have hB0 := hB.below hb0
  cases hv : B.valid
  · have hc : Hid (checkE B = 20) := Lib.hid (by simp [checkE, hv])
    have ha : Hid (rightR B = (false, 20)) := Lib.hid (by simp [rightR, hv])
    clear hv
    go_enter Tryd.func57, Tryd.ntmps57
    go_wp2_with (refine ld30 rfl _ rfl _ _ rfl hx0 rfl ?_)
    refine (checkR_v hB0).mono ?_
    rintro e w1 ⟨rfl, hb1⟩
    rw [hc.out]
    go_wp2_with fail
    refine bodyPost_ret (results_tmp2 rfl _ _) rfl ?_
    exact ⟨by rw [ha.out]; rfl, hb0.trans (hb1.mono hb0.size)⟩
  · have hV := valid_iff.1 hv
    have hc : Hid (checkE B = 0) := Lib.hid (by simp [checkE, hv])
    have hR : Hid (rightR B = (decide ((0 : Int) < ((cansB B).length : Int)), 0)) := Lib.hid (by
      unfold rightR
      rw [if_pos hv]
      congr 1
      cases h : cansB B with
      | nil => rfl
      | cons x l => simp)
    clear hv
    go_enter Tryd.func57, Tryd.ntmps57
    go_wp2_with (refine ld30 rfl _ rfl _ _ rfl hx0 rfl ?_)
    refine (checkR_v hB0).mono ?_
    rintro e w1 ⟨rfl, hb1⟩
    rw [hc.out]
    have hx1 := (hb1.block _ (Array.getElem?_eq_some_iff.1 hx0).1).trans hx0
    have hB1 := hB0.below hb1
    have hb1' := hb0.trans (hb1.mono hb0.size)
    go_wp2_with (refine ld30 rfl _ rfl _ _ rfl hx1 rfl ?_)
    refine (bottomsR_v hB1 hV).mono ?_
    rintro e w2 ⟨b, a, c, rfl, hb2, hC⟩
    have hb2' := hb1'.trans (hb2.mono hb1'.size)
    go_wp2_with fail
    refine bodyPost_ret (results_tmp2 rfl _ _) rfl ?_
    exact ⟨by rw [hR.out]; simp, hb2'⟩
theorem rightRef_v {B : Book} {v : Value} {w : World} (hB : BookV w v B) : Calls Tryd.prog 57 #[v] w (RightPost B w) := by
  obtain ⟨tb, tq, ta, tc, sb, sq, sa, sc, rfl, hT, hS⟩ := hB
  exact rightRef_any B ta tc sa sc w ⟨tb, tq, ta, tc, sb, sq, sa, sc, rfl, hT, hS⟩
end Go.Proofs.YtkbmpkdflgimmaaDoor
