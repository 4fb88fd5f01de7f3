/- The contract of asked. -/
import Derived.Test.YtkbmpkdflgimmaaDoorArms
namespace Go.Proofs.YtkbmpkdflgimmaaDoor
open Go.RowKit Go.Shelf

theorem spanOk_spec {s : Span} (h : spanOk s = true) : -40 ≤ s.lo ∧ s.lo ≤ s.hi ∧ s.hi ≤ 80 ∧ s.hi - s.lo ≤ 4 := by
  simp [spanOk, spanB] at h; omega
theorem VB.of_valid {B : Book} (h : B.valid = true) : VB B := by
  simp [Book.valid, hdrB, inB, spanB, shoreOk, List.all_eq_true] at h
  obtain ⟨⟨⟨⟨⟨⟨a1, a2⟩, ⟨b1, b2, b3, b4⟩, ⟨c1, c2⟩, ⟨d1, d2⟩, e⟩, ht⟩, ⟨⟨f1, f2, f3, f4⟩, ⟨g1, g2⟩⟩⟩, ⟨⟨i1, i2, i3, i4⟩, ⟨j1, j2⟩⟩⟩, hs⟩ := h
  refine ⟨by omega, by omega, fun k hk => ?_, ⟨by omega, by omega, by omega, by omega, by omega, by omega, by omega⟩, ⟨by omega, by omega, by omega, by omega⟩, ⟨by omega, by omega, by omega, by omega⟩, by omega, fun y hy => ?_⟩
  · have := spanOk_spec (ht _ (List.getElem_mem hk))
    exact ⟨hk, by omega, by omega, by omega⟩
  · have := hs y hy
    simp [soundOk, inB] at this
    omega
/-- What asked answers. -/
def askE (B : Book) (is : Bool) : Int := if B.valid then (if is then (if (ext0 B (dep B.sounds [])).isEmpty then 22 else 0) else 21) else 20
/-- All that the bottom can be at both shores. -/
def cansB (B : Book) : List (Int × Int) := ext0 B (dep B.sounds [])
/-- What lies behind the calculation's value, at z or beyond. -/
def AskFacts (z : Nat) (B : Book) (ta : Option Addr) (tc : Nat) (sa : Option Addr) (sc : Nat) (W : World) (cs : Array Value) : Prop :=
  ∃ m ca cc, cs = calcCells B ta tc sa sc m (.slice ca (cansB B).length cc) ∧ MapTy z W m (dep B.sounds []) ∧ W.ownsRow z 99 2 (.slice ca (cansB B).length cc) (cansB B).length (flatC (cansB B))
theorem AskFacts.keep {z : Nat} {B : Book} {ta : Option Addr} {tc : Nat} {sa : Option Addr} {sc : Nat} {W W' : World} {cs : Array Value} (h : AskFacts z B ta tc sa sc W cs)
    (hk : ∀ k o, z ≤ k → W.heap[k]? = some o → ((∃ es c, o = .map es c) ∨ (∃ cur, o = .cells cur 3 (0, 0)) ∨ ∃ cur, o = .cells cur 99 (0, 0)) → W'.heap[k]? = some o) : AskFacts z B ta tc sa sc W' cs := by
  obtain ⟨m, ca, cc, h1, h2, h3⟩ := h
  refine ⟨m, ca, cc, h1, h2.keep (fun k o hz ho hx => hk k o hz ho (by rcases hx with h | h; exact .inl h; exact .inr (.inl h))), ownsRow_of h3 (fun g hg => ?_)⟩
  obtain ⟨cur, hc⟩ := ownsRow_obj h3 g hg
  rw [hc, hk g _ (h3.lt g hg).1 hc (.inr (.inr ⟨cur, rfl⟩))]
theorem AskFacts.below {z : Nat} {B : Book} {ta : Option Addr} {tc : Nat} {sa : Option Addr} {sc : Nat} {W W' : World} {cs : Array Value} (h : AskFacts z B ta tc sa sc W cs) (hb : Below W.heap.size W W') : AskFacts z B ta tc sa sc W' cs :=
  h.keep fun k _ _ hk _ => (hb.block k (Array.getElem?_eq_some_iff.1 hk).1).trans hk
theorem AskFacts.down {z z' : Nat} {B : Book} {ta : Option Addr} {tc : Nat} {sa : Option Addr} {sc : Nat} {W : World} {cs : Array Value} (h : AskFacts z B ta tc sa sc W cs) (hz : z' ≤ z) : AskFacts z' B ta tc sa sc W cs := by
  obtain ⟨m, ca, cc, h1, h2, h3⟩ := h
  exact ⟨m, ca, cc, h1, h2.down hz, ownsRow_lo h3 hz⟩
structure AskCs (z : Nat) (B : Book) (ta : Option Addr) (tc : Nat) (sa : Option Addr) (sc : Nat) (err : Int) (W : World) (cs : Array Value) : Prop where
  size : cs.size = 16
  one : cs.all (·.oneCell') = true
  facts : err = 0 → AskFacts z B ta tc sa sc W cs
def AskPost (B : Book) (ta : Option Addr) (tc : Nat) (sa : Option Addr) (sc : Nat) (is : Bool) (w : World) (e : Ending) (w' : World) : Prop :=
  ∃ cs : Array Value, e = .returned (.tuple #[.agg cs, i64 (askE B is)]) ∧ Below w.heap.size w w' ∧ AskCs w.heap.size B ta tc sa sc (askE B is) w' cs
theorem nilInts (n : Nat) (W : World) : IntsAt n W 0 0 none [] := ⟨by simp, fun h => absurd rfl h, fun h => absurd rfl h, fun k h => by simp at h⟩
set_option maxRecDepth 100000 in
set_option maxHeartbeats 2000000 in
theorem asked_bad (nA : Nat) (B : Book) (tb tq : Nat) (ta : Option Addr) (tc : Nat) (sb sq : Nat) (sa : Option Addr) (sc : Nat) (is : Bool) (w : World)
    (hn : nA ≤ w.heap.size) (_hG : GL nA w) (hT : SpansAt nA w tb tq ta B.tides) (hS : SoundsAt nA w sb sq sa B.sounds) (hC : Hid (checkE B = 20)) (hE : Hid (askE B is = 20)) :
    Calls Tryd.prog 72 #[bookVal B ta tc sa sc, .bool is] w (AskPost B ta tc sa sc is w) := by
  have hb0 : Below w.heap.size w ((w.alloc (.cells (bookCells B ta tc sa sc) 30)).alloc (.cells zero93 93)) := ((Below.refl _ w).alloc (Nat.le_refl _) _).alloc (by simp) _
  have hT0 := hT.same ((Same.of_below hb0).mono hn)
  have hS0 := hS.same ((Same.of_below hb0).mono hn)
  have hx0 : ((w.alloc (.cells (bookCells B ta tc sa sc) 30)).alloc (.cells zero93 93)).heap[w.heap.size]? = some (.cells (bookCells B ta tc sa sc) 30 (0, 0)) := (Below.heap_alloc _ _ _ (by simp)).trans (heap_alloc_new w _)
  have hr0 : ((w.alloc (.cells (bookCells B ta tc sa sc) 30)).alloc (.cells zero93 93)).heap[w.heap.size + 1]? = some (.cells zero93 93 (0, 0)) := heap_alloc2_new w _ _
  go_enter Tryd.func72, Tryd.ntmps72
  go_wp2_with (first | (refine ld30 rfl _ rfl _ _ rfl hx0 rfl ?_) | (go_at_call 43; refine (check_any B _ _ _ _ _ _ _ _ _ (hT0.up (by simp; omega)) (hS0.up (by simp; omega))).mono ?_; rintro e w1 ⟨rfl, hb⟩; rw [hC.out]; have hbA := hb0.trans (hb.mono (by simp; omega)); have hx := (hb.block _ (by simp <;> omega)).trans hx0; have hxl := (Array.getElem?_eq_some_iff.1 hx).1; have hr := (hb.block _ (by simp <;> omega)).trans hr0; have hrl := (Array.getElem?_eq_some_iff.1 hr).1) | (refine st93 rfl _ _ rfl _ zero93 zero93 rfl rfl hr rfl rfl (by simp [Value.oneCell']) ?_))
  refine bodyPost_ret (results_cell_tmp rfl _ _ (w.heap.size + 1) 93 zero93 (0, 0) _ rfl (setRow_heap _ _ _ _ _ _ hr) Tryd.underlying93 rfl (by rw [size93]; rfl)) rfl ?_
  exact ⟨zero93, by rw [hE.out]; rfl, (SetAt.row _ _ _).below (by omega) hbA, ⟨rfl, by simp [Value.oneCell'], fun h => by rw [hE.out] at h; cases h⟩⟩
set_option maxRecDepth 100000 in
set_option maxHeartbeats 2000000 in
theorem asked_not (nA : Nat) (B : Book) (tb tq : Nat) (ta : Option Addr) (tc : Nat) (sb sq : Nat) (sa : Option Addr) (sc : Nat) (w : World)
    (hn : nA ≤ w.heap.size) (_hG : GL nA w) (hT : SpansAt nA w tb tq ta B.tides) (hS : SoundsAt nA w sb sq sa B.sounds) (hC : Hid (checkE B = 0)) (hE : Hid (askE B false = 21)) :
    Calls Tryd.prog 72 #[bookVal B ta tc sa sc, .bool false] w (AskPost B ta tc sa sc false w) := by
  have hb0 : Below w.heap.size w ((w.alloc (.cells (bookCells B ta tc sa sc) 30)).alloc (.cells zero93 93)) := ((Below.refl _ w).alloc (Nat.le_refl _) _).alloc (by simp) _
  have hT0 := hT.same ((Same.of_below hb0).mono hn)
  have hS0 := hS.same ((Same.of_below hb0).mono hn)
  have hx0 : ((w.alloc (.cells (bookCells B ta tc sa sc) 30)).alloc (.cells zero93 93)).heap[w.heap.size]? = some (.cells (bookCells B ta tc sa sc) 30 (0, 0)) := (Below.heap_alloc _ _ _ (by simp)).trans (heap_alloc_new w _)
  have hr0 : ((w.alloc (.cells (bookCells B ta tc sa sc) 30)).alloc (.cells zero93 93)).heap[w.heap.size + 1]? = some (.cells zero93 93 (0, 0)) := heap_alloc2_new w _ _
  go_enter Tryd.func72, Tryd.ntmps72
  go_wp2_with (first | (refine ld30 rfl _ rfl _ _ rfl hx0 rfl ?_) | (go_at_call 43; refine (check_any B _ _ _ _ _ _ _ _ _ (hT0.up (by simp; omega)) (hS0.up (by simp; omega))).mono ?_; rintro e w1 ⟨rfl, hb⟩; rw [hC.out]; have hbA := hb0.trans (hb.mono (by simp; omega)); have hx := (hb.block _ (by simp <;> omega)).trans hx0; have hxl := (Array.getElem?_eq_some_iff.1 hx).1; have hr := (hb.block _ (by simp <;> omega)).trans hr0; have hrl := (Array.getElem?_eq_some_iff.1 hr).1) | (refine st93 rfl _ _ rfl _ zero93 zero93 rfl rfl hr rfl rfl (by simp [Value.oneCell']) ?_))
  refine bodyPost_ret (results_cell_tmp rfl _ _ (w.heap.size + 1) 93 zero93 (0, 0) _ rfl (setRow_heap _ _ _ _ _ _ hr) Tryd.underlying93 rfl (by rw [size93]; rfl)) rfl ?_
  exact ⟨zero93, by rw [hE.out]; rfl, (SetAt.row _ _ _).below (by omega) hbA, ⟨rfl, by simp [Value.oneCell'], fun h => by rw [hE.out] at h; cases h⟩⟩
set_option maxRecDepth 100000 in
set_option maxHeartbeats 2000000 in
theorem asked_false (nA : Nat) (B : Book) (tb tq : Nat) (ta : Option Addr) (tc : Nat) (sb sq : Nat) (sa : Option Addr) (sc : Nat) (w : World)
    (hn : nA ≤ w.heap.size) (hG : GL nA w) (hT : SpansAt nA w tb tq ta B.tides) (hS : SoundsAt nA w sb sq sa B.sounds) (hV : VB B) (hC : Hid (checkE B = 0)) (hE : Hid (askE B true = 22)) (hq : ((ext0 B (dep B.sounds [])).length : Int) = 0) :
    Calls Tryd.prog 72 #[bookVal B ta tc sa sc, .bool true] w (AskPost B ta tc sa sc true w) := by
  have hb0 : Below w.heap.size w ((w.alloc (.cells (bookCells B ta tc sa sc) 30)).alloc (.cells zero93 93)) := ((Below.refl _ w).alloc (Nat.le_refl _) _).alloc (by simp) _
  have hT0 := hT.same ((Same.of_below hb0).mono hn)
  have hS0 := hS.same ((Same.of_below hb0).mono hn)
  have hx0 : ((w.alloc (.cells (bookCells B ta tc sa sc) 30)).alloc (.cells zero93 93)).heap[w.heap.size]? = some (.cells (bookCells B ta tc sa sc) 30 (0, 0)) := (Below.heap_alloc _ _ _ (by simp)).trans (heap_alloc_new w _)
  have hr0 : ((w.alloc (.cells (bookCells B ta tc sa sc) 30)).alloc (.cells zero93 93)).heap[w.heap.size + 1]? = some (.cells zero93 93 (0, 0)) := heap_alloc2_new w _ _
  go_enter Tryd.func72, Tryd.ntmps72
  go_wp2_with (first | (refine ld30 rfl _ rfl _ _ rfl hx0 rfl ?_) | (go_at_call 43; refine (check_any B _ _ _ _ _ _ _ _ _ (hT0.up (by simp; omega)) (hS0.up (by simp; omega))).mono ?_; rintro e w1 ⟨rfl, hb⟩; rw [hC.out]; have hbA := hb0.trans (hb.mono (by simp; omega)); have hx := (hb.block _ (by simp <;> omega)).trans hx0; have hxl := (Array.getElem?_eq_some_iff.1 hx).1; have hr := (hb.block _ (by simp <;> omega)).trans hr0; have hrl := (Array.getElem?_eq_some_iff.1 hr).1) | (refine ld30 rfl _ rfl _ _ rfl hx rfl ?_) | (go_at_call 70; refine (opened_any nA B tb tq ta tc sb sq sa sc 0 0 none 0 [] _ hV (by have := hbA.size; omega) (hG.same ((Same.of_below hbA).mono hn)) (hT.same ((Same.of_below hbA).mono hn)) (hS.same ((Same.of_below hbA).mono hn)) (nilInts _ _)).mono ?_; rintro e w2 ⟨m, ca, cc, rfl, hb2, hM2, hC2⟩; have hbB := hbA.trans (hb2.mono (by have := hbA.size; omega)); have hr2 := (hb2.block _ hrl).trans hr; have hrl2 := (Array.getElem?_eq_some_iff.1 hr2).1; have hr3 := (Below.heap_alloc w2 (.cells (calcCells B ta tc sa sc m (.slice ca (ext0 B (dep B.sounds [])).length cc)) 93) _ hrl2).trans hr2; have hn3 := heap_alloc_new w2 (.cells (calcCells B ta tc sa sc m (.slice ca (ext0 B (dep B.sounds [])).length cc)) 93); have hn3l : w2.heap.size < (w2.alloc (.cells (calcCells B ta tc sa sc m (.slice ca (ext0 B (dep B.sounds [])).length cc)) 93)).heap.size := by simp) | (refine ld93 rfl _ rfl _ _ rfl hn3 rfl ?_) | (refine st93 rfl _ _ rfl _ (calcCells B ta tc sa sc m (.slice ca (ext0 B (dep B.sounds [])).length cc)) zero93 rfl rfl hr3 rfl rfl (by simp [Value.oneCell']) ?_))
  refine bodyPost_ret (results_cell_tmp rfl _ _ (w.heap.size + 1) 93 (calcCells B ta tc sa sc m (.slice ca (ext0 B (dep B.sounds [])).length cc)) (0, 0) _ rfl (setRow_heap _ _ _ _ _ _ hr3) Tryd.underlying93 rfl (by rw [size93]; rfl)) rfl ?_
  exact ⟨_, by rw [hE.out]; rfl, (SetAt.row _ _ _).below (by omega) (hbB.alloc (by have := hbB.size; omega) _), ⟨rfl, by simp [Value.oneCell'], fun h => by rw [hE.out] at h; cases h⟩⟩
set_option maxRecDepth 100000 in
set_option maxHeartbeats 2000000 in
theorem asked_true (nA : Nat) (B : Book) (tb tq : Nat) (ta : Option Addr) (tc : Nat) (sb sq : Nat) (sa : Option Addr) (sc : Nat) (w : World)
    (hn : nA ≤ w.heap.size) (hG : GL nA w) (hT : SpansAt nA w tb tq ta B.tides) (hS : SoundsAt nA w sb sq sa B.sounds) (hV : VB B) (hC : Hid (checkE B = 0)) (hE : Hid (askE B true = 0)) (hq : ¬ ((ext0 B (dep B.sounds [])).length : Int) = 0) :
    Calls Tryd.prog 72 #[bookVal B ta tc sa sc, .bool true] w (AskPost B ta tc sa sc true w) := by
  have hb0 : Below w.heap.size w ((w.alloc (.cells (bookCells B ta tc sa sc) 30)).alloc (.cells zero93 93)) := ((Below.refl _ w).alloc (Nat.le_refl _) _).alloc (by simp) _
  have hT0 := hT.same ((Same.of_below hb0).mono hn)
  have hS0 := hS.same ((Same.of_below hb0).mono hn)
  have hx0 : ((w.alloc (.cells (bookCells B ta tc sa sc) 30)).alloc (.cells zero93 93)).heap[w.heap.size]? = some (.cells (bookCells B ta tc sa sc) 30 (0, 0)) := (Below.heap_alloc _ _ _ (by simp)).trans (heap_alloc_new w _)
  have hr0 : ((w.alloc (.cells (bookCells B ta tc sa sc) 30)).alloc (.cells zero93 93)).heap[w.heap.size + 1]? = some (.cells zero93 93 (0, 0)) := heap_alloc2_new w _ _
  go_enter Tryd.func72, Tryd.ntmps72
  go_wp2_with (first | (refine ld30 rfl _ rfl _ _ rfl hx0 rfl ?_) | (go_at_call 43; refine (check_any B _ _ _ _ _ _ _ _ _ (hT0.up (by simp; omega)) (hS0.up (by simp; omega))).mono ?_; rintro e w1 ⟨rfl, hb⟩; rw [hC.out]; have hbA := hb0.trans (hb.mono (by simp; omega)); have hx := (hb.block _ (by simp <;> omega)).trans hx0; have hxl := (Array.getElem?_eq_some_iff.1 hx).1; have hr := (hb.block _ (by simp <;> omega)).trans hr0; have hrl := (Array.getElem?_eq_some_iff.1 hr).1) | (refine ld30 rfl _ rfl _ _ rfl hx rfl ?_) | (go_at_call 70; refine (opened_any nA B tb tq ta tc sb sq sa sc 0 0 none 0 [] _ hV (by have := hbA.size; omega) (hG.same ((Same.of_below hbA).mono hn)) (hT.same ((Same.of_below hbA).mono hn)) (hS.same ((Same.of_below hbA).mono hn)) (nilInts _ _)).mono ?_; rintro e w2 ⟨m, ca, cc, rfl, hb2, hM2, hC2⟩; have hbB := hbA.trans (hb2.mono (by have := hbA.size; omega)); have hr2 := (hb2.block _ hrl).trans hr; have hrl2 := (Array.getElem?_eq_some_iff.1 hr2).1; have hr3 := (Below.heap_alloc w2 (.cells (calcCells B ta tc sa sc m (.slice ca (ext0 B (dep B.sounds [])).length cc)) 93) _ hrl2).trans hr2; have hn3 := heap_alloc_new w2 (.cells (calcCells B ta tc sa sc m (.slice ca (ext0 B (dep B.sounds [])).length cc)) 93); have hn3l : w2.heap.size < (w2.alloc (.cells (calcCells B ta tc sa sc m (.slice ca (ext0 B (dep B.sounds [])).length cc)) 93)).heap.size := by simp) | (refine ld93 rfl _ rfl _ _ rfl hn3 rfl ?_) | (refine st93 rfl _ _ rfl _ (calcCells B ta tc sa sc m (.slice ca (ext0 B (dep B.sounds [])).length cc)) zero93 rfl rfl hr3 rfl rfl (by simp [Value.oneCell']) ?_))
  refine bodyPost_ret (results_cell_tmp rfl _ _ (w.heap.size + 1) 93 (calcCells B ta tc sa sc m (.slice ca (ext0 B (dep B.sounds [])).length cc)) (0, 0) _ rfl (setRow_heap _ _ _ _ _ _ hr3) Tryd.underlying93 rfl (by rw [size93]; rfl)) rfl ?_
  have hset := SetAt.row (w2.alloc (.cells (calcCells B ta tc sa sc m (.slice ca (ext0 B (dep B.sounds [])).length cc)) 93)) (w.heap.size + 1) (calcCells B ta tc sa sc m (.slice ca (ext0 B (dep B.sounds [])).length cc))
  refine ⟨_, by rw [hE.out]; rfl, hset.below (by omega) (hbB.alloc (by have := hbB.size; omega) _), ⟨rfl, by simp [Value.oneCell'], fun _ => ?_⟩⟩
  refine AskFacts.down (z := w1.heap.size) ?_ (by have := hbA.size; omega)
  exact AskFacts.keep (W := w2) ⟨m, ca, cc, rfl, hM2, hC2⟩ (fun k _ hz hk _ => (hset.other k (by omega)).trans ((Below.heap_alloc _ _ _ (Array.getElem?_eq_some_iff.1 hk).1).trans hk))
theorem asked_any (nA : Nat) (B : Book) (tb tq : Nat) (ta : Option Addr) (tc : Nat) (sb sq : Nat) (sa : Option Addr) (sc : Nat) (is : Bool) (w : World)
    (hn : nA ≤ w.heap.size) (hG : GL nA w) (hT : SpansAt nA w tb tq ta B.tides) (hS : SoundsAt nA w sb sq sa B.sounds) :
    Calls Tryd.prog 72 #[bookVal B ta tc sa sc, .bool is] w (AskPost B ta tc sa sc is w) := by
  cases hv : B.valid
  · exact asked_bad nA B tb tq ta tc sb sq sa sc is w hn hG hT hS (Lib.hid (by simp [checkE, hv])) (Lib.hid (by simp [askE, hv]))
  · have hV := VB.of_valid hv
    have hC : Hid (checkE B = 0) := Lib.hid (by simp [checkE, hv])
    cases is
    · exact asked_not nA B tb tq ta tc sb sq sa sc w hn hG hT hS hC (Lib.hid (by simp [askE, hv]))
    · by_cases h0 : (ext0 B (dep B.sounds [])).length = 0
      · exact asked_false nA B tb tq ta tc sb sq sa sc w hn hG hT hS hV hC (Lib.hid (by simp [askE, hv, List.length_eq_zero_iff.1 h0])) (by omega)
      · refine asked_true nA B tb tq ta tc sb sq sa sc w hn hG hT hS hV hC (Lib.hid ?_) (by omega)
        have hne : (ext0 B (dep B.sounds [])).isEmpty = false := by
          cases he : ext0 B (dep B.sounds []) with
          | nil => simp [he] at h0
          | cons x l => rfl
        simp [askE, hv, hne]
end Go.Proofs.YtkbmpkdflgimmaaDoor
