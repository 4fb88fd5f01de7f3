/- Regions that draw their order, in a round of a range over a function, walked once under a class of worlds; and the marks that ranges over functions leave behind. -/
import Derived.Test.YtkbmpkdflgimmaaDoorSome
import Derived.Test.YtkbmpkdflgimmaaDoorQReg
import Derived.Sort.QuietThIn
namespace Go.Proofs.YtkbmpkdflgimmaaDoor
open Go.RowKit Go.Shelf
section
variable {F : Fence} {n : Nat} {P : Program} {ops : Array Oper} {md : Region.Mode} {C : World → Prop}
def noDefer (ops : Array Oper) : Bool := ops.all fun o => match o.op with | .defer _ => false | _ => true
theorem noDefer_spec (h : noDefer ops = true) {i : Nat} {o : Oper} (hi : ops[i]? = some o) : ∀ c, o.op ≠ .defer c := by
  intro c hc
  unfold noDefer at h
  rw [Array.all_eq_true] at h
  obtain ⟨hlt, he⟩ := Array.getElem?_eq_some_iff.1 hi
  have := h i hlt
  rw [he, hc] at this
  simp at this
theorem wpIn_of_quietR {o : Oper} {a : Act} {K : Act → Prop} {K' : Act → World → Prop} {Q' : Exit → Act → World → Prop} {w : World} (hnd : ∀ c, o.op ≠ .defer c) (hw : C w) (h : ∀ a w', C w' → K a → K' a w')
    (ha : o.askedIn F P a C) (hh : o.quietIn F n P a C K) : o.wpIn F n P a w K' Q' := by
  obtain ⟨v, h1, h2⟩ := hh
  have h3 := h1 w hw
  unfold Oper.quietAtIn at h3
  unfold Oper.wpIn
  refine ⟨ha w hw, ?_⟩
  rw [Oper.semAt_plain F _ _ hnd]
  generalize (execOp a.eval o).run P w = r at *
  cases r with
  | ok x w' =>
    cases x <;> simp only [Oper.quietUponIn] at h3 <;> simp only [Oper.uponIn]
    case value u =>
      obtain ⟨e1, e2⟩ := h3
      rw [e1, e2]
      exact h _ _ hw h2
    case skip =>
      obtain ⟨e1, e2⟩ := h3
      rw [e1, ← e2]
      exact h _ _ hw h2
    case enter f args =>
      obtain ⟨e1, hd, hc⟩ := h3
      rw [e1]
      exact ⟨hd, hc.mono fun e w'' ⟨he, hw''⟩ => by subst he; exact h _ _ hw'' h2⟩
  | halt x w' => simp only [Oper.quietUponIn] at h3
theorem wpOpIn_of_qOpInR {i : Nat} {a : Act} {K : Act → Prop} {K' : Act → World → Prop} {Q' : Exit → Act → World → Prop} {w : World} (hnd : noDefer ops = true) (hC : C w) (h : ∀ a w', C w' → K a → K' a w')
    (hh : qOpIn F n P ops C i K a) : wpOpIn F n P ops Q' i K' a w := by
  unfold qOpIn at hh
  unfold wpOpIn
  split
  · rename_i ho; simp only [ho] at hh; exact h _ _ hC hh
  · rename_i o ho
    simp only [ho] at hh
    obtain ⟨ha, hh⟩ := hh
    split
    · rename_i hw; simp only [hw, if_true] at hh; exact wpIn_of_quietR (noDefer_spec hnd ho) hC h ha hh
    · rename_i hw; simp only [hw] at hh; exact ⟨ha w hC, h _ _ hC hh⟩
theorem wpAnyIn_of_quietR {Q : Act → Prop} {Q' : Exit → Act → World → Prop} (hnd : noDefer ops = true) (hQ : ∀ a w, C w → Q a → Q' .normal a w) : ∀ (fuel : Nat) (listed : Array Bool) (a : Act) (w : World), C w →
    wpAnyQIn F n P md ops C Q fuel listed a → wpAnyIn F n P md ops Q' fuel listed a w
  | 0, _, _, _, hw, h => ⟨h.1, hQ _ _ hw h.2⟩
  | fuel + 1, _, _, _, hw, h => ⟨fun h0 => hQ _ _ hw (h.1 h0), fun i hi => wpOpIn_of_qOpInR hnd hw (fun a' w' hw' => wpAnyIn_of_quietR hnd hQ fuel _ a' w' hw') (h.2 i hi)⟩
/-- A region that draws its order, walked in the order of the text, in a round. -/
theorem qr_region {id : Nat} {Q : Exit → Act → World → Prop} {a : Act} {w : World} {l : List Oper} (C : World → Prop) (hnd : noDefer l.toArray = true) (hm : P.follows .mixedOrders = true) (hB : Region.lexB .any l.toArray = true)
    (hC : ∀ n, C { w with drawn := n }) (h : wpQuietIn F n P l.toArray C (fun a' => ∀ w', C w' → Q .normal a' w') l a) : (Code.region id l.toArray true).wpIn F n P Q a w := by
  simp only [Region.lexB, Bool.and_eq_true] at hB
  refine wpIn_region_any hm (wpAnyIn_of_quietR (Q := fun a' => ∀ w', C w' → Q .normal a' w') hnd (fun _ w' hw' h => h w' hw') _ _ _ _ (hC _) ?_)
  have := wpAnyQIn_lex (F := F) (n := n) (C := C) (md := .any) hB.1 l 0 (Array.replicate l.toArray.size false) a (by simp) (by simpa using hB.2) h
  simpa using this
end
section
variable {l n : Nat} {P : Program} {C : World → Prop} {K : Act → Prop} {a : Act} {ops : Array Oper} {o : Oper} {rest : List Oper}
theorem qr_val (hw : Region.wanted o (yielded ops a.tmps) = true) (h : ∃ v, (∀ w, C w → (execOp a.eval o).run P w = .ok (.value v) w) ∧ wpQuietIn (Fence.wide.inRound l) n P ops C K rest (a.put o.dst v)) :
    wpQuietIn (Fence.wide.inRound l) n P ops C K (o :: rest) a := by
  obtain ⟨v, h1, h2⟩ := h
  refine ⟨fun _ _ _ _ => trivial, ?_⟩
  simp only [hw, if_true]
  exact ⟨v, fun w hC => by simp [Oper.quietAtIn, h1 w hC, Oper.quietUponIn], h2⟩
theorem qr_call (hw : Region.wanted o (yielded ops a.tmps) = true) (v : Value) (f : FuncId) (args : Array Value) (h : ∀ w, C w → (execOp a.eval o).run P w = .ok (.enter f args) w)
    (hc : ∀ w, C w → Calls P f args w fun e w' => e = .returned v ∧ C w') (hn : wpQuietIn (Fence.wide.inRound l) n P ops C K rest (a.put o.dst v)) : wpQuietIn (Fence.wide.inRound l) n P ops C K (o :: rest) a := by
  refine ⟨fun _ _ _ _ => trivial, ?_⟩
  simp only [hw, if_true]
  exact ⟨v, fun w hC => by
    simp only [Oper.quietAtIn, h w hC, Oper.quietUponIn]
    exact ⟨trivial, fun hd => by simp [Fence.inRound, Fence.wide] at hd, CallsIn.inRound l (callsIn_wide.2 (hc w hC))⟩, hn⟩
end

/-- The mark of a range over a function, among the deferred calls. -/
abbrev mark (D : Nat) : Deferred := { target := .collected D, args := #[] }
structure Marks (n : Nat) (Ds : List Nat) (W : World) : Prop where
  nodup : Ds.Nodup
  at_ : ∀ D ∈ Ds, n ≤ D ∧ W.heap[D]? = some (.deferred (some []))
theorem Marks.nil (n : Nat) (W : World) : Marks n [] W := ⟨List.nodup_nil, fun _ h => by cases h⟩
theorem Marks.more {n : Nat} {Ds : List Nat} {W W' : World} (h : Marks n Ds W) (hb : Below W.heap.size W W') : Marks n Ds W' :=
  ⟨h.nodup, fun D hD => ⟨(h.at_ D hD).1, (hb.block D (Array.getElem?_eq_some_iff.1 (h.at_ D hD).2).1).trans (h.at_ D hD).2⟩⟩
theorem Marks.cons {n D C : Nat} {Ds : List Nat} {W W' : World} (h : Marks n Ds W) (hC : C = W.heap.size) (hb : ∀ k, k < C → W.heap[k]?= some (.deferred (some [])) → W'.heap[k]? = some (.deferred (some []))) (hn : n ≤ C) (hD : C ≤ D) (hk : W'.heap[D]? = some (.deferred (some []))) : Marks n (D :: Ds) W' := by
  subst hC
  have hlt : ∀ d ∈ Ds, d < W.heap.size := fun d hd => (Array.getElem?_eq_some_iff.1 (h.at_ d hd).2).1
  refine ⟨List.nodup_cons.2 ⟨fun hd => ?_, h.nodup⟩, fun d hd => ?_⟩
  · have := hlt D hd; omega
  · rcases List.mem_cons.1 hd with rfl | hd
    · exact ⟨by omega, hk⟩
    · exact ⟨(h.at_ d hd).1, hb d (hlt d hd) (h.at_ d hd).2⟩
/-- What the marks' taking leaves as it was. -/
structure Shut (n : Nat) (W W' : World) : Prop where
  os : W'.os = W.os
  tape : W'.tape = W.tape
  output : W'.output = W.output
  size : W'.heap.size = W.heap.size
  old : ∀ k, k < n → W'.heap[k]? = W.heap[k]?
  kept : ∀ (k : Nat) c t z, W.heap[k]? = some (Obj.cells c t z) → W'.heap[k]? = some (Obj.cells c t z)
theorem Shut.below {n m : Nat} {w W W' : World} (h : Shut n W W') (hm : m ≤ n) (hb : Below m w W) : Below m w W' :=
  ⟨h.os.trans hb.os, h.tape.trans hb.tape, h.output.trans hb.output, by rw [h.size]; exact hb.size, fun k hk => (h.old k (by omega)).trans (hb.block k hk)⟩
/-- At a function's end the marks are taken, and then the results go. -/
theorem leaves_marks {P : Program} {F : Fence} {m : Nat} {fn : Func} {tmps : Array Value} {R : Ending → World → Prop} {n : Nat} : ∀ (Ds : List Nat) (W : World), Marks n Ds W →
    (∀ W', Shut n W W' → LeavesIn F m P fn tmps R [] .returning W') → LeavesInM F m P fn tmps R (Ds.map mark) .returning W
  | [], W, _, h => h W ⟨rfl, rfl, rfl, rfl, fun _ _ => rfl, fun _ _ _ _ h => h⟩
  | D :: Ds, W, hM, h => by
    refine ⟨by simp, .inl ⟨D, _, rfl, run_takeDeferred (hM.at_ D (List.mem_cons_self ..)).2, ?_⟩⟩
    have hnd := List.nodup_cons.1 hM.nodup
    have hD := hM.at_ D (List.mem_cons_self ..)
    refine leaves_marks Ds _ ⟨hnd.2, fun d hd => ⟨(hM.at_ d (List.mem_cons_of_mem _ hd)).1, (World.putObj_heap_other (fun e => hnd.1 (by rw [← e]; exact hd))).trans (hM.at_ d (List.mem_cons_of_mem _ hd)).2⟩⟩ (fun W' hs => h W' ?_)
    refine ⟨hs.os, hs.tape, hs.output, by rw [hs.size]; simp, fun k hk => (hs.old k hk).trans (World.putObj_heap_other (by omega)), fun k c t z hk => hs.kept k c t z ?_⟩
    refine (World.putObj_heap_other (fun e => ?_)).trans hk
    subst e
    rw [hD.2] at hk
    cases hk
end Go.Proofs.YtkbmpkdflgimmaaDoor
