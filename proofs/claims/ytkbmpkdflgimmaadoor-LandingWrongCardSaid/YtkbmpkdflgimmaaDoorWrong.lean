/- The contract of Wrong. -/
import Derived.Test.YtkbmpkdflgimmaaDoorChoose
import Derived.Laws.EntriesVeiled
import Derived.Outline
namespace Go.Proofs.YtkbmpkdflgimmaaDoor
open Go.RowKit Go.Shelf

def WrongPost (B : Book) (w : World) (e : Ending) (w' : World) : Prop := ∃ v, e = .returned (.tuple #[v, i64 (wrongR B).2]) ∧ Below w.heap.size w w' ∧ ListV w' v (wrongR B).1
theorem listV_nil (W : World) : ListV W (.slice none 0 0) [] := ⟨0, 0, none, 0, rfl, Nat.le_refl _, nilInts _ _⟩
set_option maxRecDepth 100000 in
set_option maxHeartbeats 4000000 in
theorem Wrong_any (nA : Nat) (B : Book) (tb tq : Nat) (ta : Option Addr) (tc : Nat) (sb sq : Nat) (sa : Option Addr) (sc : Nat) (w : World) (hn : nA ≤ w.heap.size) (hE : Env nA w B tb tq ta sb sq sa) :
    Calls Tryd.prog 26 #[bookVal B ta tc sa sc] w (WrongPost B w) := by
  have hb0 : Below w.heap.size w (w.alloc (.cells (bookCells B ta tc sa sc) 30)) := (Below.refl _ w).alloc (Nat.le_refl _) _
  have hE0 := hE.below hn hb0
  have hx0 : (w.alloc (.cells (bookCells B ta tc sa sc) 30)).heap[w.heap.size]? = some (.cells (bookCells B ta tc sa sc) 30 (0, 0)) := heap_alloc_new w _
  cases hv : B.valid
  · have hC : Hid (checkE B = 20) := Lib.hid (by simp [checkE, hv])
    have hR : Hid (wrongR B = ([], 20)) := Lib.hid (by simp [wrongR, hv])
    clear hv
    go_enter Tryd.func26, Tryd.ntmps26
    go_wp2_with (first | (refine ld30 rfl _ rfl _ _ rfl hx0 rfl ?_) | (go_at_call 43; refine (check_any B _ _ _ _ _ _ _ _ _ (hE0.tides.up (by simp; omega)) (hE0.sounds.up (by simp; omega))).mono ?_; rintro e w1 ⟨rfl, hb⟩; rw [hC.out]))
    refine bodyPost_ret (results_tmp2 rfl _ _) rfl ?_
    exact ⟨.slice none 0 0, by rw [hR.out]; rfl, hb0.trans (by rename_i hb; exact hb.mono (by simp)), by rw [hR.out]; exact listV_nil _⟩
  · have hV := VB.of_valid hv
    have hC : Hid (checkE B = 0) := Lib.hid (by simp [checkE, hv])
    have hR : Hid (wrongR B = (wrongL B, 0)) := Lib.hid (by simp [wrongR, hv])
    have hs6 := hV.s6
    clear hv
    go_enter Tryd.func26, Tryd.ntmps26
    go_wp2_with (first | (refine ld30 rfl _ rfl _ _ rfl hx0 rfl ?_) | (go_at_call 43; refine (check_any B _ _ _ _ _ _ _ _ _ (hE0.tides.up (by simp; omega)) (hE0.sounds.up (by simp; omega))).mono ?_; rintro e w1 ⟨rfl, hb⟩; rw [hC.out]; have hx1 := (hb.block _ (by simp)).trans hx0; have hxc := cells_of hx1; have hxl := (Array.getElem?_eq_some_iff.1 hx1).1; have hbA := hb0.trans (hb.mono (by simp)); have hE1 := hE.same ((Same.of_below hbA).mono hn); have hn1 : nA ≤ w1.heap.size := by (have := hbA.size; omega)))
    have hb2 : Below w1.heap.size w1 (w1.alloc (.cells #[.func (.func 71) #[] #[.pointer (some ⟨w.heap.size, 0, none⟩), .pointer (some ⟨w1.heap.size, 0, none⟩)]] 95)) := (Below.refl _ w1).alloc (Nat.le_refl _) _
    have hCap : Cap nA w.heap.size w1.heap.size B tb tq ta tc sb sq sa sc (w1.alloc (.cells #[.func (.func 71) #[] #[.pointer (some ⟨w.heap.size, 0, none⟩), .pointer (some ⟨w1.heap.size, 0, none⟩)]] 95)) := ⟨hE1.below hn1 hb2, by simp; omega, (hb2.block _ hxl).trans hx1, heap_alloc_new _ _⟩
    refine abs_world (fun W => Below w1.heap.size w1 W ∧ Cap nA w.heap.size w1.heap.size B tb tq ta tc sb sq sa sc W) ⟨hb2, hCap⟩ ?_
    clear hb2 hCap hxc hxl
    rintro W2 ⟨hb2, hCap⟩
    have hbB := hbA.trans (hb2.mono hbA.size)
    go_loopw [19] (fun i wr => ∃ k : Nat, k ≤ B.sounds.length + 1 ∧ i = .int .i64 k ∧ Below W2.heap.size W2 wr ∧ Hid (∀ j : Nat, j < k → chooseB B j [] = none)) (fun i _ => B.sounds.length + 1 - (intOf i).toNat)
    case atStart => exact ⟨0, Nat.zero_le _, rfl, Below.refl _ _, fun j hj => by omega⟩
    case round =>
      obtain ⟨k, hk, rfl, hbw, hno⟩ := hrel
      have hCap1 := hCap.below hbw
      have hcc := cells_of hCap1.c
      have hcl := (Array.getElem?_eq_some_iff.1 hCap1.c).1
      by_cases hlt : k < B.sounds.length + 1
      · have hlt' : (k : Int) < (B.sounds.length : Int) + 1 := by omega
        have hch := choose_any nA w.heap.size w1.heap.size B tb tq ta tc sb sq sa sc hV k k [] (.slice none 0 0) wr (by simp) (by omega) (rising_nil _) hCap1 (listV_nil _)
        obtain ⟨q, hqq⟩ : ∃ q, chooseB B k [] = q := ⟨_, rfl⟩
        rw [hqq] at hch
        cases q with
        | none =>
          have hno2 : Hid (∀ j : Nat, j < k + 1 → chooseB B j [] = none) := fun j hj => by
            rcases Nat.lt_or_ge j k with h' | h'
            · exact hno.out j h'
            · obtain rfl : j = k := by omega
              exact hqq
          clear hno hqq
          go_wp2_with (go_at_call 71; refine hch.mono ?_; rintro e w3 ⟨v, rfl, hb3, _⟩; have hbw3 := hbw.trans (hb3.mono hbw.size))
          go_roundw
          case rel => exact ⟨k + 1, by omega, by go_num, hbw3, hno2⟩
          case measure => simp [intOf]; omega
        | some r =>
          have hfin : Hid (wrongR B = (r, 0)) := by
            show _ = _
            rw [hR.out]
            have : scan (fun many => chooseB B many []) (B.sounds.length + 1) 0 = some r := scan_some.2 ⟨k, Nat.zero_le _, by omega, hqq, fun i _ h2 => hno.out i h2⟩
            simp [wrongL, this]
          clear hno hqq
          go_wp2_with (go_at_call 71; refine hch.mono ?_; rintro e w3 ⟨v, rfl, hb3, hv3⟩; have hbw3 := hbw.trans (hb3.mono hbw.size); obtain ⟨b, o, a, c, rfl, hlc, hI⟩ := hv3 r rfl; have hrl := hI.len; have hsl := slice_all hlc (fun h => hI.at_ (fun e => h (by rw [e]; rfl))) w3)
          refine bodyPost_ret (results_tmp2 rfl _ _) rfl ?_
          exact ⟨.slice a r.length r.length, by rw [hfin.out]; rfl, hbB.trans (hbw3.mono hbB.size), by rw [hfin.out]; exact ⟨b, o, a, _, rfl, Nat.le_refl _, hI⟩⟩
      · have hlt' : ¬ (k : Int) < (B.sounds.length : Int) + 1 := by omega
        have hfin : Hid (wrongR B = ([], 0)) := by
          show _ = _
          rw [hR.out]
          have : scan (fun many => chooseB B many []) (B.sounds.length + 1) 0 = none := scan_none.2 (fun i _ h2 => hno.out i (by omega))
          simp [wrongL, this]
        go_wp2_with fail
        refine bodyPost_ret (results_tmp2 rfl _ _) rfl ?_
        exact ⟨.slice none 0 0, by rw [hfin.out]; rfl, hbB.trans (hbw.mono hbB.size), by rw [hfin.out]; exact listV_nil _⟩
end Go.Proofs.YtkbmpkdflgimmaaDoor
