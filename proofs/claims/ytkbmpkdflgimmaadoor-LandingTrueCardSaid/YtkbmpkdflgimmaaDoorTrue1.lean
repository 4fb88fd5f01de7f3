/- Contracts of Choose, inches, afloat. -/
import Derived.Test.YtkbmpkdflgimmaaDoorPure10
import Derived.Test.YtkbmpkdflgimmaaDoorRL
namespace Go.Proofs.YtkbmpkdflgimmaaDoor
open Go.RowKit Go.Shelf

theorem mod_big (n m : Int) (hm : m ≤ 140737488351232) (w : World) : Calls Tryd.prog 24 #[i64 n, i64 m] w fun e w' => e = .returned (i64 (modI n m)) ∧ w = w' := by
  rcases Int.lt_or_le 0 m with h | h
  · have hq := tmod_emod n m h
    have hm0 : ¬ m ≤ 0 := by omega
    rcases hq with ⟨q1, q2, q3⟩ | ⟨q1, q2, q3⟩
    · have hmi : Hid (modI n m = n.tmod m) := Lib.hid (by unfold modI; rw [if_neg (by omega), q3])
      have hq1 : ¬ n.tmod m < 0 := by omega
      clear q3
      go_enter Tryd.func24, Tryd.ntmps24
      go_wp2
      go_ret
      exact ⟨by rw [hmi.out]; rfl, rfl⟩
    · have hmi : Hid (modI n m = n.tmod m + m) := Lib.hid (by unfold modI; rw [if_neg (by omega), q3])
      clear q3
      go_enter Tryd.func24, Tryd.ntmps24
      go_wp2
      go_ret
      exact ⟨by rw [hmi.out]; rfl, rfl⟩
  · have hmi : Hid (modI n m = 0) := Lib.hid (by unfold modI; rw [if_pos h])
    go_enter Tryd.func24, Tryd.ntmps24
    go_wp2
    go_ret
    exact ⟨by rw [hmi.out]; rfl, rfl⟩
/-- The element of a list that a number chooses. -/
def chooseI (l : List Int) (n : Int) : Int := if l.length = 0 then 0 else l.getD (modI n l.length).toNat 0
theorem chooseI_any (n b o : Nat) (a : Option Addr) (c : Nat) (l : List Int) (x : Int) (w : World) (hl : IntsAt n w b o a l) :
    Calls Tryd.prog 69 #[.slice a l.length c, i64 x] w fun e w' => e = .returned (i64 (chooseI l x)) ∧ w = w' := by
  have hlen := hl.len
  by_cases h0 : l.length = 0
  · have fin : Hid (chooseI l x = 0) := Lib.hid (by simp [chooseI, h0])
    have hz : ((l.length : Int) == 0) = true := by simp [h0]
    clear h0
    go_enter Tryd.func69, Tryd.ntmps69
    go_wp2_with fail
    go_ret
    exact ⟨by rw [fin.out]; rfl, rfl⟩
  · have hm := modI_lt (n := x) (m := l.length) (by omega)
    obtain ⟨k, hk⟩ : ∃ k : Nat, modI x l.length = k := ⟨(modI x l.length).toNat, by omega⟩
    have hkl : k < l.length := by omega
    have fin : Hid (chooseI l x = l[k]) := Lib.hid (by
      unfold chooseI
      rw [if_neg h0, hk, Int.toNat_natCast, List.getD_eq_getElem?_getD, List.getElem?_eq_getElem hkl]
      rfl)
    have hz : ((l.length : Int) == 0) = false := by rw [beq_eq_false_iff_ne]; omega
    have hidx := idx40 (n := l.length) (c := c) (k := k) w (hl.at_ (ne_nil_of_lt hkl)) hkl
    have hc := hl.cell k hkl
    have M := mod_big x l.length (by omega) w
    rw [hk] at M
    clear hm hk h0
    go_enter Tryd.func69, Tryd.ntmps69
    go_wp2_with (go_at_call 24; refine M.mono ?_; rintro e w' ⟨rfl, rfl⟩)
    go_ret
    exact ⟨by rw [fin.out]; rfl, rfl⟩
theorem chooseI_v {W : World} {v : Value} {l : List Int} (h : ListV W v l) (x : Int) : Calls Tryd.prog 69 #[v, i64 x] W fun e w' => e = .returned (i64 (chooseI l x)) ∧ W = w' := by
  obtain ⟨b, o, a, c, rfl, _, hI⟩ := h
  exact chooseI_any W.heap.size b o a c l x W hI
def inchI (B : Book) (ld : Int) : Int := (ld + B.sink - 1) / B.sink
theorem inch_range {B : Book} {ld : Int} (hk : 1 ≤ B.sink) (hk2 : B.sink ≤ 100) (l0 : 0 ≤ ld) (l1 : ld ≤ 1000) : 0 ≤ inchI B ld ∧ inchI B ld ≤ 2000 := by
  unfold inchI
  exact ⟨Int.ediv_nonneg (by omega) (by omega), Int.le_trans (Int.ediv_le_self _ (by omega)) (by omega)⟩
theorem inches_any (B : Book) (ta : Option Addr) (tc : Nat) (sa : Option Addr) (sc : Nat) (ld : Int) (w : World) (hk : 1 ≤ B.sink) (hk2 : B.sink ≤ 100) (l0 : 0 ≤ ld) (l1 : ld ≤ 1000) :
    Calls Tryd.prog 78 #[bookVal B ta tc sa sc, i64 ld] w fun e w' => e = .returned (i64 (inchI B ld)) ∧ Below w.heap.size w w' := by
  have hk0 : ¬ B.sink = 0 := by omega
  obtain ⟨Q, hQ, hQe, hQ0, hQ1⟩ : ∃ Q, Hid (inchI B ld = Q) ∧ (ld + B.sink - 1).tdiv B.sink = Q ∧ 0 ≤ Q ∧ Q ≤ 2000 :=
    ⟨_, Lib.hid rfl, Int.tdiv_eq_ediv_of_nonneg (by omega), inch_range hk hk2 l0 l1⟩
  go_enter Tryd.func78, Tryd.ntmps78
  go_wp2_with fail
  go_ret
  exact ⟨by rw [hQ.out]; rfl, (Below.refl _ _).alloc (Nat.le_refl _) _⟩
end Go.Proofs.YtkbmpkdflgimmaaDoor
