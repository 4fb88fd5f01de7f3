/- Contracts of the small functions of the package: within, isSpan, isHour, isShore, isLoad. -/
import Derived.Test.YtkbmpkdflgimmaaDoorBase
namespace Go.Proofs.YtkbmpkdflgimmaaDoor
open Go.RowKit

def inB (n lo hi : Int) : Bool := decide (lo ≤ n) && decide (n ≤ hi)
theorem within_any (n lo hi : Int) (w : World) :
    Calls Tryd.prog 80 #[.int .i64 n, .int .i64 lo, .int .i64 hi] w fun e w' => e = .returned (.bool (inB n lo hi)) ∧ w = w' := by
  by_cases h1 : lo ≤ n
  · go_enter Tryd.func80, Tryd.ntmps80
    go_wp2
    go_ret
    simp [inB, h1]
  · go_enter Tryd.func80, Tryd.ntmps80
    go_wp2
    go_ret
    simp [inB]
    omega

def spanB (a b lo hi : Int) : Bool := decide (lo ≤ a) && (decide (a ≤ b) && (decide (b ≤ hi) && decide (b - a ≤ 4)))
def SpanPost (a b lo hi : Int) (w : World) (e : Ending) (w' : World) : Prop := e = .returned (.bool (spanB a b lo hi)) ∧ Below w.heap.size w w'
theorem isSpan_any (a b lo hi : Int) (w : World) (h1 : -1000 ≤ lo) (h2 : hi ≤ 1000) :
    Calls Tryd.prog 81 #[.agg #[.int .i64 a, .int .i64 b], .int .i64 lo, .int .i64 hi] w (SpanPost a b lo hi w) := by
  go_enter Tryd.func81, Tryd.ntmps81
  go_wp2
  all_goals
    refine bodyPost_ret (results_tmp rfl _ _ _) rfl ⟨?_, (Below.refl _ _).alloc (Nat.le_refl _) _⟩
    simp [spanB]
    first | omega | (simp [*]; done) | (trace_state; simp [*]; omega)
theorem isShore_any (n : Int) (w : World) :
    Calls Tryd.prog 76 #[.int .i64 n] w fun e w' => e = .returned (.bool (inB n 0 1)) ∧ w = w' := by
  go_enter Tryd.func76, Tryd.ntmps76
  go_wp2_with (go_at_call 80; refine (within_any _ _ _ _).mono ?_; rintro e w' ⟨rfl, rfl⟩)
  go_ret
  exact ⟨rfl, rfl⟩
theorem isLoad_any (n : Int) (w : World) :
    Calls Tryd.prog 77 #[.int .i64 n] w fun e w' => e = .returned (.bool (inB n 0 200)) ∧ w = w' := by
  go_enter Tryd.func77, Tryd.ntmps77
  go_wp2_with (go_at_call 80; refine (within_any _ _ _ _).mono ?_; rintro e w' ⟨rfl, rfl⟩)
  go_ret
  exact ⟨rfl, rfl⟩
theorem isHour_any (B : Book) (ta : Option Addr) (tc : Nat) (sa : Option Addr) (sc : Nat) (n : Int) (w : World) (hl : B.tides.length * 16 ≤ 140737488351232) :
    Calls Tryd.prog 73 #[bookVal B ta tc sa sc, .int .i64 n] w fun e w' => e = .returned (.bool (inB n 0 ((B.tides.length : Int) - 1))) ∧ Below w.heap.size w w' := by
  go_enter Tryd.func73, Tryd.ntmps73
  go_wp2_with (go_at_call 80; refine (within_any _ _ _ _).mono ?_; rintro e w' ⟨rfl, rfl⟩)
  go_ret
  exact ⟨rfl, (Below.refl _ _).alloc (Nat.le_refl _) _⟩
end Go.Proofs.YtkbmpkdflgimmaaDoor
