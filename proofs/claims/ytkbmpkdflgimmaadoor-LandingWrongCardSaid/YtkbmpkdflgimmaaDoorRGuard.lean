/- Guarded operations under the law for drawn regions. -/
import Derived.Test.YtkbmpkdflgimmaaDoorPure1
import Derived.Test.YtkbmpkdflgimmaaDoorMust
namespace Go.Proofs.YtkbmpkdflgimmaaDoor
open Go.RowKit Go.Shelf
section
variable {P : Program} {l : List Oper} {Q : Exit → Act → World → Prop} {rd : Nat → List Nat} {pure : Nat → Bool} {G : Nat → List Value → World → Prop} {R : World → World → Prop} {i : Nat} {o : Oper} {a : Act} {w : World}
theorem wanted_of {j d : Nat} {want b : Bool} (hg : o.guard = some (j, want)) (hd : (l[j]?).bind (·.dst) = some d) (hs : slotOf a d = .bool b) : Region.wanted o (yielded l.toArray a.tmps) = (b == want) := by
  have ht : a.tmps[d]? = some (.bool b) := by
    unfold slotOf at hs
    rw [Array.getD_eq_getD_getElem?] at hs
    cases h : a.tmps[d]? with
    | none => rw [h] at hs; cases hs
    | some v => rw [h] at hs; exact congrArg some hs
  simp only [Region.wanted, hg, yielded, List.getElem?_toArray, hd, Option.bind_some, ht]
  cases b <;> cases want <;> rfl
theorem wanted_none (hg : o.guard = none) : Region.wanted o (yielded l.toArray a.tmps) = true := by simp [Region.wanted, hg]
theorem rgw_val (hw : Region.wanted o (yielded l.toArray a.tmps) = true) (v : Value) (h : (execOp a.eval o).run P w = .ok (.value v) w) (hR : R w w) (hG : G i (valsOf rd i (a.put o.dst v)) w) : RgStep P l Q rd pure G R i o a w := by
  unfold RgStep
  rw [if_pos hw]
  unfold Oper.wp
  rw [h]
  exact ⟨v, rfl, hR, fun _ => rfl, hG⟩
theorem rgw_skip (hw : Region.wanted o (yielded l.toArray a.tmps) = false) (hG : G i (valsOf rd i (a.put o.dst undef)) w) : RgStep P l Q rd pure G R i o a w := by
  unfold RgStep
  rw [if_neg (by rw [hw]; exact Bool.false_ne_true)]
  exact hG
theorem rgw_call (hw : Region.wanted o (yielded l.toArray a.tmps) = true) (f : FuncId) (args : Array Value) (h : (execOp a.eval o).run P w = .ok (.enter f args) w) (hp : pure i = false)
    (hc : Calls P f args w fun e w' => ∃ v, e = .returned v ∧ R w w' ∧ G i (valsOf rd i (a.put o.dst v)) w') : RgStep P l Q rd pure G R i o a w := by
  unfold RgStep
  rw [if_pos hw]
  unfold Oper.wp
  rw [h]
  refine Calls.mono hc ?_
  rintro e w' ⟨v, rfl, hR, hG⟩
  exact ⟨v, rfl, hR, (fun h => by rw [hp] at h; cases h), hG⟩
theorem ex_pick (c x y : Operand) (ho : o.op = .pick c x y) (b : Bool) (hc : a.eval c = .bool b) : (execOp a.eval o).run P w = .ok (.value (if b then a.eval x else a.eval y)) w := by
  unfold execOp
  simp only [ho, hc, asBool, Sem.run_bind, Sem.run_pure, Result.andThen_ok]
end
theorem slot_tmps {a : Act} {k : Nat} {v : Value} (h : slotOf a k = v) : a.tmps[k]?.getD undef = v := by simpa [slotOf] using h

theorem ask_zero {B : Book} {is : Bool} (h : askE B is = 0) : B.valid = true ∧ is = true ∧ 0 < (cansB B).length := by
  unfold askE at h
  split at h
  · rename_i hv
    split at h
    · rename_i hi
      split at h
      · cases h
      · rename_i hc
        refine ⟨hv, hi, ?_⟩
        unfold cansB
        cases hx : ext0 B (dep B.sounds []) with
        | nil => rw [hx] at hc; exact absurd rfl hc
        | cons x l => simp
    · cases h
  · cases h
theorem VB.len {B : Book} (hV : VB B) : (cansB B).length ≤ 1000 := by
  have := preC0_len B (dep B.sounds []) (B.s0.fh - B.s0.fl + 1).toNat hV.sh1
  have := hV.sh0.near
  unfold cansB ext0
  omega
theorem VB.ok {B : Book} (hV : VB B) (but : List Int) : CansOk (ext0 B (dep B.sounds but)) := by
  intro f hf
  obtain ⟨⟨a1, a2⟩, ⟨b1, b2⟩, _⟩ := mem_ext0.1 hf
  have := hV.sh0.lo
  have := hV.sh0.hi
  have := hV.sh1.lo
  have := hV.sh1.hi
  exact ⟨⟨by omega, by omega⟩, by omega, by omega⟩
/-- What asked hands back, if it hands back no error. -/
structure Good (B : Book) (ta : Option Addr) (tc : Nat) (sa : Option Addr) (sc : Nat) (W : World) (b m : Nat) (ca : Option Addr) (cc cb : Nat) : Prop where
  vb : VB B
  box : W.heap[b]? = some (.cells (calcCells B ta tc sa sc m (.slice ca (cansB B).length cc)) 93 (0, 0))
  map : MapIn W.heap.size W m (dep B.sounds [])
  cans : CansAt W.heap.size W cb 0 ca (cansB B)
  pos : 0 < (cansB B).length
theorem Good.of {z : Nat} {B : Book} {ta : Option Addr} {tc : Nat} {sa : Option Addr} {sc : Nat} {W : World} {is : Bool} {cs : Array Value} {b : Nat} (he : askE B is = 0) (h : AskCs z B ta tc sa sc (askE B is) W cs) (hb : W.heap[b]? = some (.cells cs 93 (0, 0))) :
    is = true ∧ ∃ m ca cc cb, Good B ta tc sa sc W b m ca cc cb := by
  obtain ⟨hv, hi, hp⟩ := ask_zero he
  obtain ⟨m, ca, cc, rfl, hM, hC⟩ := h.facts he
  have hV := VB.of_valid hv
  obtain ⟨cb, a', c', heq, hca, _⟩ := cans_of_row hC hV.len
  obtain ⟨rfl, rfl⟩ : ca = a' ∧ cc = c' := by simpa using heq
  refine ⟨hi, m, ca, cc, cb, hV, hb, hM.mapIn (fun x y => ?_), hca, hp⟩
  have := depK_len B.sounds [] B.sounds.length x y
  have := hV.s6
  unfold dep
  omega
theorem Good.below {B : Book} {ta : Option Addr} {tc : Nat} {sa : Option Addr} {sc : Nat} {W W' : World} {b m : Nat} {ca : Option Addr} {cc cb : Nat} (h : Good B ta tc sa sc W b m ca cc cb) (hb : Below W.heap.size W W') : W'.heap[b]? = some (.cells (calcCells B ta tc sa sc m (.slice ca (cansB B).length cc)) 93 (0, 0)) ∧ MapIn W.heap.size W' m (dep B.sounds []) ∧ CansAt W.heap.size W' cb 0 ca (cansB B) :=
  ⟨(hb.block _ (Array.getElem?_eq_some_iff.1 h.box).1).trans h.box, h.map.same (Same.of_below hb), h.cans.same (Same.of_below hb)⟩
theorem must_c {B : Book} {tb tq : Nat} {ta : Option Addr} {tc : Nat} {sa : Option Addr} {sc : Nat} {W : World} {b m : Nat} {ca : Option Addr} {cc cb : Nat} (h : Good B ta tc sa sc W b m ca cc cb) (hT : SpansAt W.heap.size W tb tq ta B.tides) (hr : Nat) (hlt : hr < B.tides.length) (s load : Int)
    (hs : s = 0 ∨ s = 1) (l0 : 0 ≤ load) (l1 : load ≤ 1000) (w : World) (hb : Below W.heap.size W w) :
    Calls Tryd.prog 79 #[calcVal B ta tc sa sc m (.slice ca (cansB B).length cc), .agg #[i64 hr, i64 s], i64 load] w (SomePost (sureB B s hr load) w) := by
  obtain ⟨_, h2, h3⟩ := h.below hb
  have := callsIn_wide.1 (must_in 3 (Nat.le_refl _) W.heap.size B tb tq ta tc sa sc m cb 0 ca (cansB B) cc (dep B.sounds []) hr (h.vb.hour hr hlt) s load h.vb.sane hs l0 l1 (h.vb.ok []) w hb.size (hT.same (Same.of_below hb)) h2 h3)
  unfold sureB
  rw [tideAt_nat hlt]
  exact this
theorem may_c {B : Book} {tb tq : Nat} {ta : Option Addr} {tc : Nat} {sa : Option Addr} {sc : Nat} {W : World} {b m : Nat} {ca : Option Addr} {cc cb : Nat} (h : Good B ta tc sa sc W b m ca cc cb) (hT : SpansAt W.heap.size W tb tq ta B.tides) (hr : Nat) (hlt : hr < B.tides.length) (s load : Int)
    (hs : s = 0 ∨ s = 1) (l0 : 0 ≤ load) (l1 : load ≤ 1000) (w : World) (hb : Below W.heap.size W w) :
    Calls Tryd.prog 122 #[calcVal B ta tc sa sc m (.slice ca (cansB B).length cc), .agg #[i64 hr, i64 s], i64 load] w (SomePost (maybeB B s hr load) w) := by
  obtain ⟨_, h2, h3⟩ := h.below hb
  have := callsIn_wide.1 (may_in 3 (Nat.le_refl _) W.heap.size B tb tq ta tc sa sc m cb 0 ca (cansB B) cc (dep B.sounds []) hr (h.vb.hour hr hlt) s load h.vb.sane hs l0 l1 (h.vb.ok []) w hb.size (hT.same (Same.of_below hb)) h2 h3)
  unfold maybeB
  rw [tideAt_nat hlt]
  exact this
theorem inB_iff {n lo hi : Int} : inB n lo hi = true ↔ lo ≤ n ∧ n ≤ hi := by simp [inB]
end Go.Proofs.YtkbmpkdflgimmaaDoor
