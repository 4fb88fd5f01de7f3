/- The contract of Right. -/
import Derived.Test.YtkbmpkdflgimmaaDoorAsked
namespace Go.Proofs.YtkbmpkdflgimmaaDoor
open Go.RowKit Go.Shelf

/-- What the exported functions read: the book's lists and the package's variables, below n. -/
structure Env (n : Nat) (W : World) (B : Book) (tb tq : Nat) (ta : Option Addr) (sb sq : Nat) (sa : Option Addr) : Prop where
  gl : GL n W
  tides : SpansAt n W tb tq ta B.tides
  sounds : SoundsAt n W sb sq sa B.sounds
theorem Env.same {n : Nat} {W W' : World} {B : Book} {tb tq : Nat} {ta : Option Addr} {sb sq : Nat} {sa : Option Addr} (h : Env n W B tb tq ta sb sq sa) (hb : Same n W W') : Env n W' B tb tq ta sb sq sa := ⟨h.gl.same hb, h.tides.same hb, h.sounds.same hb⟩
theorem Env.below {n : Nat} {W W' : World} {B : Book} {tb tq : Nat} {ta : Option Addr} {sb sq : Nat} {sa : Option Addr} (h : Env n W B tb tq ta sb sq sa) (hn : n ≤ W.heap.size) (hb : Below W.heap.size W W') : Env n W' B tb tq ta sb sq sa := h.same ((Same.of_below hb).mono hn)
def rightR (B : Book) : Bool × Int := if B.valid then (!(cansB B).isEmpty, 0) else (false, 20)
def RightPost (B : Book) (w : World) (e : Ending) (w' : World) : Prop := e = .returned (.tuple #[.bool (rightR B).1, i64 (rightR B).2]) ∧ Below w.heap.size w w'
theorem field93_2 (B : Book) (ta : Option Addr) (tc : Nat) (sa : Option Addr) (sc m : Nat) (cv : Value) (w : World) : (Instr.field 93 (calcVal B ta tc sa sc m cv) 2).run Tryd.prog w = .ok cv w := by
  have hu := run_underlying Tryd.underlying93 w
  simp [Instr.field, Sem.run_bind, hu, go_sem, asAgg]
theorem results_tmp2 {P : Program} {fn : Func} {p q : Tmp} (h : fn.results = #[.tmp p, .tmp q]) (tmps : Array Value) (w : World) : (results fn tmps).run P w = .ok (.tuple #[tmps.getD p undef, tmps.getD q undef]) w := by
  simp [results, h]
set_option maxRecDepth 100000 in
set_option maxHeartbeats 2000000 in
theorem Right_any (nA : Nat) (B : Book) (tb tq : Nat) (ta : Option Addr) (tc : Nat) (sb sq : Nat) (sa : Option Addr) (sc : Nat) (w : World) (hn : nA ≤ w.heap.size) (hE : Env nA w B tb tq ta sb sq sa) :
    Calls Tryd.prog 25 #[bookVal B ta tc sa sc] w (RightPost B w) := by
  have hb0 : Below w.heap.size w (w.alloc (.cells (bookCells B ta tc sa sc) 30)) := (Below.refl _ w).alloc (Nat.le_refl _) _
  have hE0 := hE.below hn hb0
  have hx0 : (w.alloc (.cells (bookCells B ta tc sa sc) 30)).heap[w.heap.size]? = some (.cells (bookCells B ta tc sa sc) 30 (0, 0)) := heap_alloc_new w _
  cases hv : B.valid
  · have hC : Hid (checkE B = 20) := Lib.hid (by simp [checkE, hv])
    have hR : Hid (rightR B = (false, 20)) := Lib.hid (by simp [rightR, hv])
    clear hv
    go_enter Tryd.func25, Tryd.ntmps25
    go_wp2_with (first | (refine ld30 rfl _ rfl _ _ rfl hx0 rfl ?_) | (go_at_call 43; refine (check_any B _ _ _ _ _ _ _ _ _ (hE0.tides.up (by simp; omega)) (hE0.sounds.up (by simp; omega))).mono ?_; rintro e w1 ⟨rfl, hb⟩; rw [hC.out]))
    refine bodyPost_ret (results_tmp2 rfl _ _) rfl ?_
    exact ⟨by rw [hR.out]; rfl, hb0.trans (by rename_i hb; exact hb.mono (by simp))⟩
  · have hV := VB.of_valid hv
    have hC : Hid (checkE B = 0) := Lib.hid (by simp [checkE, hv])
    have hR : Hid (rightR B = (decide (0 < (cansB B).length), 0)) := Lib.hid (by
      have : (!(cansB B).isEmpty) = decide (0 < (cansB B).length) := by cases cansB B <;> simp
      simp [rightR, hv, this])
    clear hv
    have hf := field93_2 B ta tc sa sc
    go_enter Tryd.func25, Tryd.ntmps25
    go_wp2_with (first | (refine ld30 rfl _ rfl _ _ rfl hx0 rfl ?_) | (go_at_call 43; refine (check_any B _ _ _ _ _ _ _ _ _ (hE0.tides.up (by simp; omega)) (hE0.sounds.up (by simp; omega))).mono ?_; rintro e w1 ⟨rfl, hb⟩; rw [hC.out]; have hx1 := (hb.block _ (by simp)).trans hx0; have hbA := hb0.trans (hb.mono (by simp)); have hE1 := hE.same ((Same.of_below hbA).mono hn); have hn1 : nA ≤ w1.heap.size := by (have := hbA.size; omega)) | (refine ld30 rfl _ rfl _ _ rfl hx1 rfl ?_) | (go_at_call 70; refine (opened_any nA B tb tq ta tc sb sq sa sc 0 0 none 0 [] _ hV hn1 hE1.gl hE1.tides hE1.sounds (nilInts _ _)).mono ?_; rintro e w2 ⟨m, ca, cc, rfl, hb2, _, _⟩; have hbB := hbA.trans (hb2.mono hbA.size)))
    refine bodyPost_ret (results_tmp2 rfl _ _) rfl ?_
    exact ⟨by rw [hR.out]; rfl, hbB⟩
end Go.Proofs.YtkbmpkdflgimmaaDoor
