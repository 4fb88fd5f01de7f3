/- The contract of Wrong's closure: the first list of so many soundings without which the book can be true. -/
import Derived.Test.YtkbmpkdflgimmaaDoorRGuard
import Derived.Test.YtkbmpkdflgimmaaDoorPure2
import Derived.ArgAppend
namespace Go.Proofs.YtkbmpkdflgimmaaDoor
open Go.RowKit Go.Shelf

theorem GL.up {n m : Nat} {W : World} (h : GL n W) (hn : n ≤ m) : GL m W := ⟨Nat.le_trans h.n3 hn, h.now0, h.now1, h.unk0, h.unk1⟩
theorem Env.up {n m : Nat} {W : World} {B : Book} {tb tq : Nat} {ta : Option Addr} {sb sq : Nat} {sa : Option Addr} (h : Env n W B tb tq ta sb sq sa) (hn : n ≤ m) : Env m W B tb tq ta sb sq sa := ⟨h.gl.up hn, h.tides.up hn, h.sounds.up hn⟩
/-- A slice value that reads as a list. -/
def ListV (W : World) (v : Value) (l : List Int) : Prop := ∃ b o a c, v = .slice a l.length c ∧ l.length ≤ c ∧ IntsAt W.heap.size W b o a l
theorem ListV.below {W W' : World} {v : Value} {l : List Int} (h : ListV W v l) (hb : Below W.heap.size W W') : ListV W' v l := by
  obtain ⟨b, o, a, c, h1, h2, h3⟩ := h
  exact ⟨b, o, a, c, h1, h2, (h3.same (Same.of_below hb)).up hb.size⟩
theorem ListV.of_row {W : World} {base : Nat} {v : Value} {l : List Int} (h : W.ownsRow base 3 1 v l.length (l.map i64)) (hl : l.length ≤ 1000) : ListV W v l := by
  rcases h.2 with ⟨rfl, h0⟩ | ⟨g, cap, cur, rfl, h3, h4, h5, h6, h7, h8⟩
  · have : l = [] := List.length_eq_zero_iff.1 h0
    subst this
    exact ⟨0, 0, none, 0, rfl, Nat.le_refl _, ⟨by simp, fun h => absurd rfl h, fun h => absurd rfl h, fun k h => by simp at h⟩⟩
  · refine ⟨g, 0, some ⟨g, 0, none⟩, cap, rfl, h5, ⟨by omega, fun _ => rfl, fun _ => (Array.getElem?_eq_some_iff.1 h4).1, fun k hk => ?_⟩⟩
    have := h.cells (g := g) rfl k (i64 l[k]) (by simp [hk])
    rw [addr_add] at this
    simpa using this
theorem addr_add0 (g o : Nat) : (⟨g, o, none⟩ : Addr).add 0 = ⟨g, o, none⟩ := by unfold Addr.add; split <;> simp_all
theorem slice_all {a : Option Addr} {n c b o : Nat} (hn : n ≤ c) (ha : n ≠ 0 → a = some ⟨b, o, none⟩) (W : World) :
    (Instr.slice 40 (.slice a n c) none (some (i64 n)) (some (i64 n))).run Tryd.prog W = .ok (.slice a n n) W := by
  have hu : Tryd.prog.underlying 40 = some (.slice (Tryd.prog.elem 40)) := by kernel_rfl
  have hs : (sizeOf (Tryd.prog.elem 40)).run Tryd.prog W = .ok 1 W := by kernel_rfl
  rw [run_slice_hm W 40 a n c hu .i64 .i64 n n (by omega) (by omega) (by omega), hs]
  simp only [Result.andThen, sliced, Nat.zero_mul, Int.toNat_natCast, Nat.sub_zero]
  by_cases h0 : n = 0
  · rw [if_pos h0]
  · rw [if_neg h0, ha h0]
    simp only [Option.map_some, addr_add0]
/-- What Wrong's closure reads. -/
structure Cap (nA xb cb : Nat) (B : Book) (tb tq : Nat) (ta : Option Addr) (tc : Nat) (sb sq : Nat) (sa : Option Addr) (sc : Nat) (W : World) : Prop where
  env : Env nA W B tb tq ta sb sq sa
  na : nA ≤ W.heap.size
  x : W.heap[xb]? = some (.cells (bookCells B ta tc sa sc) 30 (0, 0))
  c : W.heap[cb]? = some (.cells #[.func (.func 71) #[] #[.pointer (some ⟨xb, 0, none⟩), .pointer (some ⟨cb, 0, none⟩)]] 95 (0, 0))
theorem Cap.below {nA xb cb : Nat} {B : Book} {tb tq : Nat} {ta : Option Addr} {tc : Nat} {sb sq : Nat} {sa : Option Addr} {sc : Nat} {W W' : World} (h : Cap nA xb cb B tb tq ta tc sb sq sa sc W) (hb : Below W.heap.size W W') : Cap nA xb cb B tb tq ta tc sb sq sa sc W' :=
  ⟨h.env.below h.na hb, Nat.le_trans h.na hb.size, (hb.block _ (Array.getElem?_eq_some_iff.1 h.x).1).trans h.x, (hb.block _ (Array.getElem?_eq_some_iff.1 h.c).1).trans h.c⟩
/-- What it answers: a value, and whether there is such a list; if there is one, the value reads as it. -/
def ChR (q : Option (List Int)) (W : World) (v : Value) : Prop := ∀ r, q = some r → ListV W v r
def ChoosePost (q : Option (List Int)) (w : World) (e : Ending) (w' : World) : Prop := ∃ v, e = .returned (.tuple #[v, .bool q.isSome]) ∧ Below w.heap.size w w' ∧ ChR q w' v
theorem ChR.below {q : Option (List Int)} {W W' : World} {v : Value} (h : ChR q W v) (hb : Below W.heap.size W W') : ChR q W' v := fun r hr => (h r hr).below hb
section
variable {P : Program} {o : Oper} {a : Act} {w : World}
theorem ex_append (s x : Operand) (t : TypeId) (ho : o.op = .call { callee := .builtin .append, args := #[s, x], argTypes := #[t, t] }) {v' : Value} {w' : World} (hr : (Builtin.append_ #[t, t] o.type #[a.eval s, a.eval x]).run P w = .ok v' w') : (execOp a.eval o).run P w = .ok (.value v') w' := by
  simp [execOp, ho, resolve, invoke, builtin, hr, Result.andThen]
end
/-- append(s[:k:k], n): a new list. -/
theorem append_new {W : World} {a : Option Addr} {b o g : Nat} {l : List Int} {x : Int} (ha : l ≠ [] → a = some ⟨b, o, none⟩) (hc : ∀ k (h : k < l.length), W.cell? ⟨b, o + k, none⟩ = some (i64 l[k])) (hl : l.length ≤ 100) (hg : W.heap[g]? = some (.cells #[i64 x] 3 (0, 0))) :
    ∃ v' w', (Builtin.append_ #[40, 40] 40 #[.slice a l.length l.length, .slice (some ⟨g, 0, none⟩) 1 1]).run Tryd.prog W = .ok v' w' ∧ ListV w' v' (l ++ [x]) ∧ Below W.heap.size W w' := by
  obtain ⟨i0, hi, hz0, hz1, hz2⟩ := info_parts info3
  have hn : ∀ j u, [i64 x][j]? = some u → W.cell? ((⟨g, 0, none⟩ : Addr).add j) = some u := fun j u hj => by
    cases j with
    | succ j => simp at hj
    | zero => rw [addr_add]; simpa using (cells_of hg 0).trans hj
  have fin : ∀ v' w', w'.ownsRow W.heap.size 3 1 v' (l.length + 1) (l.map i64 ++ [i64 x]) → W.grownBy w' none → ListV w' v' (l ++ [x]) ∧ Below W.heap.size W w' := fun v' w' h1 h2 => by
    refine ⟨ListV.of_row (base := W.heap.size) (by simpa using h1) (by simp; omega), ⟨h2.os, h2.tape, h2.output, h2.size, fun k hk => h2.block k hk (by simp)⟩⟩
  cases a with
  | some ad =>
    obtain ⟨v', w', hrun, r1, r2⟩ := run_append_arg_grows (P := Tryd.prog) W 40 40 3 i0 (i64 0) 1 8 Tryd.underlying40 hi hz0 hz1 hz2 rfl (by decide) ad l.length l.length (l.map i64) (by simp) (fun j u hj => by
      have hjl : j < l.length := by have := (List.getElem?_eq_some_iff.1 hj).1; simpa using this
      have e := ha (ne_nil_of_lt hjl)
      obtain rfl := Option.some.inj e
      rw [show (⟨b, o, none⟩ : Addr).add j = ⟨b, o + j, none⟩ by unfold Addr.add; split <;> simp_all, hc j hjl]
      simpa [hjl] using hj) ⟨g, 0, none⟩ 1 1 [i64 x] rfl hn (by omega) (by unfold maxLen; omega) (by omega)
    exact ⟨v', w', hrun, fin v' w' r1 r2⟩
  | none =>
    have h0 : l = [] := by
      cases l with
      | nil => rfl
      | cons y l => cases ha (by simp)
    subst h0
    obtain ⟨v', w', hrun, r1, r2, _⟩ := run_append_own (P := Tryd.prog) W W.heap.size 40 40 3 i0 (i64 0) 1 8 Tryd.underlying40 hi hz0 hz1 hz2 rfl (by decide) (.slice none 0 0) 0 [] (World.ownsRow_nil W _ 3 1) ⟨g, 0, none⟩ 1 1 [i64 x] rfl hn (by simp [Value.oneCell']) (by unfold maxLen; omega) (by omega) (Nat.le_refl _)
    exact ⟨v', w', hrun, fin v' w' (by simpa using r1) r2⟩
def rdCh (i : Nat) : List Nat := match i with
  | 0 => [42] | 1 => [43] | 2 => [44] | 3 => [45] | 4 => [46] | 5 => [47] | 6 => [48] | 7 => [49] | 8 => [50] | 9 => [51] | 10 => [41] | 11 => [52] | 12 => [53] | 13 => [11] | 14 => [12] | _ => []
def pureCh (i : Nat) : Bool := match i with
  | 6 => false | 7 => false | 9 => false | _ => true
def gCh (xb cb : Nat) (l : List Int) (a : Option Addr) (c : Nat) (n many : Int) (q : Option (List Int)) (l' : List Int) (i : Nat) (vs : List Value) (W : World) : Prop := match i with
  | 0 => vs = [.func (.func 71) #[] #[.pointer (some ⟨xb, 0, none⟩), .pointer (some ⟨cb, 0, none⟩)]]
  | 1 => vs = [.slice a l.length c]
  | 2 => vs = [i64 l.length]
  | 3 => vs = [i64 l.length]
  | 4 => vs = [.slice a l.length l.length]
  | 5 => vs = [i64 n]
  | 6 => ∃ g, vs = [.slice (some ⟨g, 0, none⟩) 1 1] ∧ W.heap[g]? = some (.cells #[i64 n] 3 (0, 0))
  | 7 => ∃ v, vs = [v] ∧ ListV W v l'
  | 8 => vs = [i64 many]
  | 9 => ∃ v, vs = [.tuple #[v, .bool q.isSome]] ∧ ChR q W v
  | 10 => ∃ v, vs = [.tuple #[v, .bool q.isSome]] ∧ ChR q W v
  | 11 => ∃ v, vs = [v] ∧ ChR q W v
  | 12 => vs = [.bool q.isSome]
  | 13 => ∃ v, vs = [v] ∧ ChR q W v
  | 14 => vs = [.bool q.isSome]
  | _ => True
/-- Nothing that there was has changed. -/
def BR (W W' : World) : Prop := Below W.heap.size W W'
theorem BR.refl (W : World) : BR W W := Below.refl _ _
theorem BR.trans {A B C : World} (h : BR A B) (k : BR B C) : BR A C := Below.trans h (Below.mono k h.size)
theorem BR.drawn (W : World) (n : Nat) : BR W { W with drawn := n } := ⟨rfl, rfl, rfl, Nat.le_refl _, fun _ _ => rfl⟩
set_option maxRecDepth 100000 in
set_option maxHeartbeats 4000000 in
theorem choose_any (nA xb cb : Nat) (B : Book) (tb tq : Nat) (ta : Option Addr) (tc : Nat) (sb sq : Nat) (sa : Option Addr) (sc : Nat) (hV : VB B) (many : Nat) : ∀ (d : Nat) (l : List Int) (v : Value) (w : World), l.length + d = many → many ≤ 10 → Rising B.sounds.length l → Cap nA xb cb B tb tq ta tc sb sq sa sc w → ListV w v l →
    Calls Tryd.prog 71 #[v, i64 many, .pointer (some ⟨xb, 0, none⟩), .pointer (some ⟨cb, 0, none⟩)] w (ChoosePost (chooseB B d l) w) := by
  intro d
  induction d with
  | zero =>
    rintro l v w hm hmany hris hCap ⟨b, o, a, c, rfl, hlc, hI⟩
    have hm' : l.length = many := by omega
    subst hm'
    have hlen := hI.len
    have hxb := hCap.x
    have hE := hCap.env
    have hq : Hid (chooseB B 0 l = if decide (0 < (ext0 B (dep B.sounds l)).length) = true then some l else none) := Lib.hid (by
      have : okB B l = decide (0 < (ext0 B (dep B.sounds l)).length) := by unfold okB; cases ext0 B (dep B.sounds l) <;> simp
      simp only [chooseB, this])
    have hf := field93_2 B ta tc sa sc
    go_enter Tryd.func71, Tryd.ntmps71
    go_wp2_with (first | (refine ld30 rfl _ rfl _ _ rfl hxb rfl ?_) | (go_at_call 70; refine (opened_any w.heap.size B tb tq ta tc sb sq sa sc b o a c l _ hV (Nat.le_refl _) (hE.gl.up hCap.na) (hE.tides.up hCap.na) (hE.sounds.up hCap.na) hI).mono ?_; rintro e w2 ⟨m, ca, cc, rfl, hb2, _, _⟩))
    refine bodyPost_ret (results_tmp2 rfl _ _) rfl ?_
    refine ⟨.slice a l.length c, ?_, hb2, fun r hr => ?_⟩
    · rw [hq.out]
      by_cases h0 : 0 < (ext0 B (dep B.sounds l)).length
      · simp [h0]
      · simp [h0]
    · rw [hq.out] at hr
      split at hr
      · cases hr
        exact ListV.below ⟨b, o, a, c, rfl, hlc, hI⟩ hb2
      · cases hr
  | succ d ih =>
    rintro l v w hm hmany hris hCap ⟨b, o, a, c, rfl, hlc, hI⟩
    have hneq : ((l.length : Int) == (many : Int)) = false := by simp; omega
    have hlen := hI.len
    have hxc := cells_of hCap.x
    have hxl := (Array.getElem?_eq_some_iff.1 hCap.x).1
    have hs6 := hV.s6
    have hst := startOf_le hris
    have hchs := Lib.hid (chooseB_succ B d l)
    obtain ⟨s0, hs0⟩ : ∃ s0, startOf l = s0 := ⟨_, rfl⟩
    rw [hs0] at hst
    rcases Nat.eq_zero_or_pos l.length with h0 | h0
    · have hz0 : s0 = 0 := by rw [← hs0, List.length_eq_zero_iff.1 h0]; rfl
      obtain rfl : l = [] := List.length_eq_zero_iff.1 h0
      have hneq0 : ((0 : Int) == (many : Int)) = false := hneq
      subst hz0
      have hs0 := Lib.hid hs0
      clear h0
      go_enter Tryd.func71, Tryd.ntmps71
      go_wp2_with fail
      go_loopw [10] (fun i wr => ∃ j : Nat, 0 ≤ j ∧ j ≤ B.sounds.length ∧ i = .int .i64 j ∧ Below w.heap.size w wr ∧ Hid (∀ i : Nat, 0 ≤ i → i < j → chooseB B d (([] : List Int) ++ [(i : Int)]) = none)) (fun i _ => B.sounds.length - (intOf i).toNat)
      case atStart => exact ⟨0, Nat.le_refl _, hst, by first | rfl | go_num, Below.refl _ _, fun i h1 h2 => by omega⟩
      case round =>
        clear hxc hxl 
        obtain ⟨j, hj1, hj2, rfl, hbw, hno⟩ := hrel
        have hCap1 := hCap.below hbw
        have hxc := cells_of hCap1.x
        have hxl := (Array.getElem?_eq_some_iff.1 hCap1.x).1
        by_cases hlt : j < B.sounds.length
        · have hris' : Rising B.sounds.length (([] : List Int) ++ [(j : Int)]) := hris.snoc (by rw [hs0.out]; exact hj1) hlt
          have hI1 : IntsAt wr.heap.size wr b o a ([] : List Int) := (hI.same (Same.of_below hbw)).up hbw.size
          obtain ⟨q, hqq⟩ : ∃ q, chooseB B d (([] : List Int) ++ [(j : Int)]) = q := ⟨_, rfl⟩
          have hqq := Lib.hid hqq
          go_wp2_with fail
          refine rg_region rdCh pureCh (gCh xb cb ([] : List Int) a c j many q (([] : List Int) ++ [(j : Int)])) BR (by kernel_rfl) (by kernel_rfl) (fun n => BR.drawn _ n) BR.refl (fun _ _ _ => BR.trans) ?_ ?_ ?_
          · intro i hi vs w1 w2 hG hR
            match i, hi, hG with
            | 0, _, hG => exact hG
            | 1, _, hG => exact hG
            | 2, _, hG => exact hG
            | 3, _, hG => exact hG
            | 4, _, hG => exact hG
            | 5, _, hG => exact hG
            | 6, _, hG => obtain ⟨g, h1, h2⟩ := hG; exact ⟨g, h1, (hR.block _ (Array.getElem?_eq_some_iff.1 h2).1).trans h2⟩
            | 7, _, hG => obtain ⟨v, h1, h2⟩ := hG; exact ⟨v, h1, h2.below hR⟩
            | 8, _, hG => exact hG
            | 9, _, hG => obtain ⟨v, h1, h2⟩ := hG; exact ⟨v, h1, h2.below hR⟩
            | 10, _, hG => obtain ⟨v, h1, h2⟩ := hG; exact ⟨v, h1, h2.below hR⟩
            | 11, _, hG => obtain ⟨v, h1, h2⟩ := hG; exact ⟨v, h1, h2.below hR⟩
            | 12, _, hG => exact hG
            | 13, _, hG => obtain ⟨v, h1, h2⟩ := hG; exact ⟨v, h1, h2.below hR⟩
            | 14, _, hG => exact hG
            | _ + 15, _, _ => trivial
          · intro i op ho act w1 hR hF hD
            have sz : act.tmps.size = 56 := hF.size
            have s0' : act.eval (.tmp 0) = .slice a ([] : List Int).length c := hF.slot 0 (by kernel_rfl)
            have s1' : act.eval (.tmp 1) = i64 many := hF.slot 1 (by kernel_rfl)
            have s3' : act.eval (.tmp 3) = .pointer (some ⟨cb, 0, none⟩) := hF.slot 3 (by kernel_rfl)
            have s8' : act.eval (.tmp 8) = i64 ([] : List Int).length := hF.slot 8 (by kernel_rfl)
            have s10' : act.eval (.tmp 10) = i64 j := hF.slot 10 (by kernel_rfl)
            have hCap2 := hCap1.below hR
            match i, ho, hD with
            | 0, ho, hD =>
              cases ho
              have hcc := cells_of hCap2.c 0
              have e3 := slot_tmps s3'
              refine rg_val rfl (.func (.func 71) #[] #[.pointer (some ⟨xb, 0, none⟩), .pointer (some ⟨cb, 0, none⟩)]) (by simp [go_sem, e3, hcc]) (BR.refl _) ?_
              exact congrArg (fun v => [v]) (slotOf_same act 42 _ (by omega))
            | 1, ho, hD =>
              cases ho
              refine rg_val rfl _ (ex_move _ rfl _ s0') (BR.refl _) ?_
              exact congrArg (fun v => [v]) (slotOf_same act 43 _ (by omega))
            | 2, ho, hD =>
              cases ho
              refine rg_val rfl _ (ex_move _ rfl _ s8') (BR.refl _) ?_
              exact congrArg (fun v => [v]) (slotOf_same act 44 _ (by omega))
            | 3, ho, hD =>
              cases ho
              refine rg_val rfl _ (ex_move _ rfl _ s8') (BR.refl _) ?_
              exact congrArg (fun v => [v]) (slotOf_same act 45 _ (by omega))
            | 4, ho, hD =>
              cases ho
              have e1 := slot_tmps (List.cons.inj (hD 1 (by decide))).1
              have e2 := slot_tmps (List.cons.inj (hD 2 (by decide))).1
              have e3 := slot_tmps (List.cons.inj (hD 3 (by decide))).1
              have hsl : (Instr.slice 40 (.slice a 0 c) none (some (i64 0)) (some (i64 0))).run Tryd.prog w1 = .ok (.slice a 0 0) w1 := slice_all (n := 0) (b := 0) (o := 0) (a := a) (c := c) (Nat.zero_le _) (fun h => absurd rfl h) w1
              refine rg_val rfl (.slice a ([] : List Int).length ([] : List Int).length) (by simp [go_sem, e1, e2, e3, hsl]) (BR.refl _) ?_
              exact congrArg (fun v => [v]) (slotOf_same act 46 _ (by omega))
            | 5, ho, hD =>
              cases ho
              refine rg_val rfl _ (ex_move _ rfl _ s10') (BR.refl _) ?_
              exact congrArg (fun v => [v]) (slotOf_same act 47 _ (by omega))
            | 6, ho, hD =>
              cases ho
              have e5 := slot_tmps (List.cons.inj (hD 5 (by decide))).1
              refine rg_wp rfl rfl ?_
              refine wp_of_run (v := .slice (some ⟨w1.heap.size, 0, none⟩) 1 1) (w' := w1.alloc (.cells #[i64 j] 3)) (by simp [go_sem, e5]) ?_
              exact ⟨_, rfl, (Below.refl _ _).alloc (Nat.le_refl _) _, _, congrArg (fun v => [v]) (slotOf_same act 48 _ (by omega)), heap_alloc_new _ _⟩
            | 7, ho, hD =>
              cases ho
              have e4 : act.eval (.tmp 46) = .slice a ([] : List Int).length ([] : List Int).length := (List.cons.inj (hD 4 (by decide))).1
              obtain ⟨g, d6, hg⟩ := hD 6 (by decide)
              have e6 : act.eval (.tmp 48) = .slice (some ⟨g, 0, none⟩) 1 1 := (List.cons.inj d6).1
              have hI2 := hI1.same (Same.of_below hR)
              obtain ⟨v', w2, hrun, hL, hb⟩ := append_new (W := w1) (x := (j : Int)) hI2.at_ hI2.cell (by omega) hg
              refine rg_wp rfl rfl ?_
              refine wp_of_run (v := v') (w' := w2) (ex_append _ _ _ rfl (by rw [e4, e6]; exact hrun)) ?_
              exact ⟨_, rfl, hb, _, congrArg (fun v => [v]) (slotOf_same act 49 _ (by omega)), hL⟩
            | 8, ho, hD =>
              cases ho
              refine rg_val rfl _ (ex_move _ rfl _ s1') (BR.refl _) ?_
              exact congrArg (fun v => [v]) (slotOf_same act 50 _ (by omega))
            | 9, ho, hD =>
              cases ho
              have e0 := slot_tmps (List.cons.inj (hD 0 (by decide))).1
              obtain ⟨v', d7, hL⟩ := hD 7 (by decide)
              have e7 := slot_tmps (List.cons.inj d7).1
              have e8 := slot_tmps (List.cons.inj (hD 8 (by decide))).1
              refine rg_call rfl 71 #[v', i64 many, .pointer (some ⟨xb, 0, none⟩), .pointer (some ⟨cb, 0, none⟩)] (by simp [go_sem, e0, e7, e8]) rfl ?_
              refine (ih (([] : List Int) ++ [(j : Int)]) v' w1 (by have hm0 : 0 + (d + 1) = many := hm; simp; omega) hmany hris' hCap2 hL).mono ?_
              rintro e w2 ⟨v2, rfl, hb, hch⟩
              rw [hqq.out] at hch
              exact ⟨_, rfl, hb, v2, congrArg (fun v => [v]) (by rw [hqq.out]; exact slotOf_same act 51 _ (by omega)), hch⟩
            | 10, ho, hD =>
              cases ho
              obtain ⟨v', d9, hL⟩ := hD 9 (by decide)
              have e9 : act.eval (.tmp 51) = _ := (List.cons.inj d9).1
              refine rg_val rfl _ (ex_move _ rfl _ e9) (BR.refl _) ?_
              exact ⟨v', congrArg (fun v => [v]) (slotOf_same act 41 _ (by omega)), hL⟩
            | 11, ho, hD =>
              cases ho
              obtain ⟨v', d9, hL⟩ := hD 10 (by decide)
              have e9 : act.eval (.tmp 41) = _ := (List.cons.inj d9).1
              refine rg_val rfl v' (ex_extract _ _ rfl _ _ e9 rfl) (BR.refl _) ?_
              exact ⟨v', congrArg (fun v => [v]) (slotOf_same act 52 _ (by omega)), hL⟩
            | 12, ho, hD =>
              cases ho
              obtain ⟨v', d9, hL⟩ := hD 10 (by decide)
              have e9 : act.eval (.tmp 41) = _ := (List.cons.inj d9).1
              refine rg_val rfl (.bool q.isSome) (ex_extract _ _ rfl _ _ e9 rfl) (BR.refl _) ?_
              exact congrArg (fun v => [v]) (slotOf_same act 53 _ (by omega))
            | 13, ho, hD =>
              cases ho
              obtain ⟨v', d9, hL⟩ := hD 11 (by decide)
              have e9 : act.eval (.tmp 52) = _ := (List.cons.inj d9).1
              refine rg_val rfl v' (ex_assign _ rfl _ e9) (BR.refl _) ?_
              exact ⟨v', congrArg (fun v => [v]) (slotOf_same act 11 _ (by omega)), hL⟩
            | 14, ho, hD =>
              cases ho
              have e9 : act.eval (.tmp 53) = .bool q.isSome := (List.cons.inj (hD 12 (by decide))).1
              refine rg_val rfl _ (ex_assign _ rfl _ e9) (BR.refl _) ?_
              exact congrArg (fun v => [v]) (slotOf_same act 12 _ (by omega))
            | _ + 15, ho, _ => cases ho
          · intro act w1 hR hF hA
            have f0 : slotOf act 0 = .slice a 0 c := hF.slot 0 (by kernel_rfl)
            have f1 : slotOf act 1 = i64 many := hF.slot 1 (by kernel_rfl)
            have f2 : slotOf act 2 = .pointer (some ⟨xb, 0, none⟩) := hF.slot 2 (by kernel_rfl)
            have f3 : slotOf act 3 = .pointer (some ⟨cb, 0, none⟩) := hF.slot 3 (by kernel_rfl)
            have f8 : slotOf act 8 = .int .i64 0 := hF.slot 8 (by kernel_rfl)
            have f10 : slotOf act 10 = i64 j := hF.slot 10 (by kernel_rfl)
            have f4 : slotOf act 4 = undef := hF.slot 4 (by kernel_rfl)
            have f5 : slotOf act 5 = undef := hF.slot 5 (by kernel_rfl)
            have f9 : slotOf act 9 = .int .i64 0 := hF.slot 9 (by kernel_rfl)
            have f13 : slotOf act 13 = .slice a 0 c := hF.slot 13 (by kernel_rfl)
            have f14 : slotOf act 14 = .int .i64 0 := hF.slot 14 (by kernel_rfl)
            have f15 : slotOf act 15 = .int .i64 0 := hF.slot 15 (by kernel_rfl)
            have f16 : slotOf act 16 = i64 many := hF.slot 16 (by kernel_rfl)
            have f17 : slotOf act 17 = .bool false := hF.slot 17 (by kernel_rfl)
            have f18 : slotOf act 18 = undef := hF.slot 18 (by kernel_rfl)
            have f19 : slotOf act 19 = undef := hF.slot 19 (by kernel_rfl)
            have f20 : slotOf act 20 = undef := hF.slot 20 (by kernel_rfl)
            have f21 : slotOf act 21 = undef := hF.slot 21 (by kernel_rfl)
            have f22 : slotOf act 22 = undef := hF.slot 22 (by kernel_rfl)
            have f23 : slotOf act 23 = undef := hF.slot 23 (by kernel_rfl)
            have f24 : slotOf act 24 = undef := hF.slot 24 (by kernel_rfl)
            have f25 : slotOf act 25 = .int .i64 0 := hF.slot 25 (by kernel_rfl)
            have f26 : slotOf act 26 = .bool false := hF.slot 26 (by kernel_rfl)
            have f27 : slotOf act 27 = undef := hF.slot 27 (by kernel_rfl)
            have f28 : slotOf act 28 = undef := hF.slot 28 (by kernel_rfl)
            have f29 : slotOf act 29 = undef := hF.slot 29 (by kernel_rfl)
            have f30 : slotOf act 30 = undef := hF.slot 30 (by kernel_rfl)
            have f31 : slotOf act 31 = undef := hF.slot 31 (by kernel_rfl)
            have f32 : slotOf act 32 = undef := hF.slot 32 (by kernel_rfl)
            have f33 : slotOf act 33 = .int .i64 0 := hF.slot 33 (by kernel_rfl)
            obtain ⟨v', d13, hch⟩ := hA 13 (by decide)
            have f11 : slotOf act 11 = v' := (List.cons.inj d13).1
            have f12 : slotOf act 12 = .bool q.isSome := (List.cons.inj (hA 14 (by decide))).1
            rw [act_eta act 56 hF.size hF.defers]
            simp only [show List.range 56 = [0, 1, 2, 3, 4, 5, 6, 7, 8, 9, 10, 11, 12, 13, 14, 15, 16, 17, 18, 19, 20, 21, 22, 23, 24, 25, 26, 27, 28, 29, 30, 31, 32, 33, 34, 35, 36, 37, 38, 39, 40, 41, 42, 43, 44, 45, 46, 47, 48, 49, 50, 51, 52, 53, 54, 55] from rfl, List.map_cons, List.map_nil, f0, f1, f2, f3, f8, f10, f11, f12, f4, f5, f9, f13, f14, f15, f16, f17, f18, f19, f20, f21, f22, f23, f24, f25, f26, f27, f28, f29, f30, f31, f32, f33]
            clear hA hF d13 f0 f1 f2 f3 f8 f10 f11 f12 f4 f5 f9 f13 f14 f15 f16 f17 f18 f19 f20 f21 f22 f23 f24 f25 f26 f27 f28 f29 f30 f31 f32 f33 hxc hxl
            have hbw2 : Below w.heap.size w w1 := hbw.trans (Below.mono hR hbw.size)
            cases q with
            | none =>
              have hno2 : Hid (∀ i : Nat, 0 ≤ i → i < j + 1 → chooseB B d (([] : List Int) ++ [(i : Int)]) = none) := fun i h1 h2 => by
                rcases Nat.lt_or_ge i j with h' | h'
                · exact hno.out i h1 h'
                · obtain rfl : i = j := by omega
                  exact hqq.out
              clear hno hqq
              go_wp2_with fail
              go_roundw
              case rel =>
                first
                  | exact ⟨j + 1, by omega, by omega, by go_num, hbw2, hno2⟩
                  | ((repeat apply Exists.intro); refine ⟨?_, rfl⟩; exact ⟨j + 1, by omega, by omega, by go_num, hbw2, hno2⟩)
              case measure => simp [intOf]; omega
            | some r =>
              have hfin : Hid (chooseB B (d + 1) ([] : List Int) = some r) := by
                show _ = _
                rw [hchs.out, scan_some]
                exact ⟨j, by rw [hs0.out]; exact hj1, by rw [hs0.out]; omega, hqq.out, fun i h1 h2 => hno.out i (by rw [hs0.out] at h1; exact h1) h2⟩
              clear hno hqq
              go_wp2_with fail
              refine bodyPost_ret (results_tmp2 rfl _ _) rfl ?_
              refine ⟨v', by rw [hfin.out]; rfl, hbw2, ?_⟩
              rw [hfin.out]
              exact hch
        · have hfin : Hid (chooseB B (d + 1) ([] : List Int) = none) := by
            show _ = _
            rw [hchs.out, scan_none]
            intro i h1 h2
            rw [hs0.out] at h1 h2
            exact hno.out i h1 (by omega)
          have hlt' : ¬ (j : Int) < (B.sounds.length : Int) := by omega
          go_wp2_with fail
          refine bodyPost_ret (results_tmp2 rfl _ _) rfl ?_
          refine ⟨.slice none 0 0, by rw [hfin.out]; rfl, hbw, fun r hr => by rw [hfin.out] at hr; cases hr⟩
    · obtain ⟨y, hy1, hy2⟩ : ∃ y : Nat, l[l.length - 1]'(by omega) = (y : Int) ∧ s0 = y + 1 := by
        have hne : l ≠ [] := ne_nil_of_lt h0
        have hx := hris.2 (l[l.length - 1]'(by omega)) (List.getElem_mem _)
        refine ⟨(l[l.length - 1]'(by omega)).toNat, by omega, ?_⟩
        rw [← hs0]
        unfold startOf
        rw [List.getLast?_eq_getElem?, List.getElem?_eq_getElem (by omega : l.length - 1 < l.length)]
        simp only
        omega
      subst hy2
      have hcy := hI.cell (l.length - 1) (by omega)
      rw [hy1] at hcy
      have hidx : ∀ W, (Instr.indexAt 40 (.slice a l.length c) (.int .i64 ((l.length : Int) - 1))).run Tryd.prog W = .ok (.pointer (some ⟨b, o + (l.length - 1), none⟩)) W := fun W => by
        have := idx40 (n := l.length) (c := c) (k := l.length - 1) W (hI.at_ (ne_nil_of_lt h0)) (by omega)
        rwa [show ((l.length - 1 : Nat) : Int) = (l.length : Int) - 1 by omega] at this
      have hy100 : (y : Int) ≤ 10 := by omega
      clear hy1
      have hs0 := Lib.hid hs0
      have h0' : 0 < (l.length : Int) := by omega
      go_enter Tryd.func71, Tryd.ntmps71
      go_wp2_with fail
      go_loopw [10] (fun i wr => ∃ j : Nat, (y + 1) ≤ j ∧ j ≤ B.sounds.length ∧ i = .int .i64 j ∧ Below w.heap.size w wr ∧ Hid (∀ i : Nat, (y + 1) ≤ i → i < j → chooseB B d (l ++ [(i : Int)]) = none)) (fun i _ => B.sounds.length - (intOf i).toNat)
      case atStart => exact ⟨(y + 1), Nat.le_refl _, hst, by first | rfl | go_num, Below.refl _ _, fun i h1 h2 => by omega⟩
      case round =>
        clear hxc hxl hcy hidx
        obtain ⟨j, hj1, hj2, rfl, hbw, hno⟩ := hrel
        have hCap1 := hCap.below hbw
        have hxc := cells_of hCap1.x
        have hxl := (Array.getElem?_eq_some_iff.1 hCap1.x).1
        by_cases hlt : j < B.sounds.length
        · have hris' : Rising B.sounds.length (l ++ [(j : Int)]) := hris.snoc (by rw [hs0.out]; exact hj1) hlt
          have hI1 : IntsAt wr.heap.size wr b o a l := (hI.same (Same.of_below hbw)).up hbw.size
          obtain ⟨q, hqq⟩ : ∃ q, chooseB B d (l ++ [(j : Int)]) = q := ⟨_, rfl⟩
          have hqq := Lib.hid hqq
          go_wp2_with fail
          refine rg_region rdCh pureCh (gCh xb cb l a c j many q (l ++ [(j : Int)])) BR (by kernel_rfl) (by kernel_rfl) (fun n => BR.drawn _ n) BR.refl (fun _ _ _ => BR.trans) ?_ ?_ ?_
          · intro i hi vs w1 w2 hG hR
            match i, hi, hG with
            | 0, _, hG => exact hG
            | 1, _, hG => exact hG
            | 2, _, hG => exact hG
            | 3, _, hG => exact hG
            | 4, _, hG => exact hG
            | 5, _, hG => exact hG
            | 6, _, hG => obtain ⟨g, h1, h2⟩ := hG; exact ⟨g, h1, (hR.block _ (Array.getElem?_eq_some_iff.1 h2).1).trans h2⟩
            | 7, _, hG => obtain ⟨v, h1, h2⟩ := hG; exact ⟨v, h1, h2.below hR⟩
            | 8, _, hG => exact hG
            | 9, _, hG => obtain ⟨v, h1, h2⟩ := hG; exact ⟨v, h1, h2.below hR⟩
            | 10, _, hG => obtain ⟨v, h1, h2⟩ := hG; exact ⟨v, h1, h2.below hR⟩
            | 11, _, hG => obtain ⟨v, h1, h2⟩ := hG; exact ⟨v, h1, h2.below hR⟩
            | 12, _, hG => exact hG
            | 13, _, hG => obtain ⟨v, h1, h2⟩ := hG; exact ⟨v, h1, h2.below hR⟩
            | 14, _, hG => exact hG
            | _ + 15, _, _ => trivial
          · intro i op ho act w1 hR hF hD
            have sz : act.tmps.size = 56 := hF.size
            have s0' : act.eval (.tmp 0) = .slice a l.length c := hF.slot 0 (by kernel_rfl)
            have s1' : act.eval (.tmp 1) = i64 many := hF.slot 1 (by kernel_rfl)
            have s3' : act.eval (.tmp 3) = .pointer (some ⟨cb, 0, none⟩) := hF.slot 3 (by kernel_rfl)
            have s8' : act.eval (.tmp 8) = i64 l.length := hF.slot 8 (by kernel_rfl)
            have s10' : act.eval (.tmp 10) = i64 j := hF.slot 10 (by kernel_rfl)
            have hCap2 := hCap1.below hR
            match i, ho, hD with
            | 0, ho, hD =>
              cases ho
              have hcc := cells_of hCap2.c 0
              have e3 := slot_tmps s3'
              refine rg_val rfl (.func (.func 71) #[] #[.pointer (some ⟨xb, 0, none⟩), .pointer (some ⟨cb, 0, none⟩)]) (by simp [go_sem, e3, hcc]) (BR.refl _) ?_
              exact congrArg (fun v => [v]) (slotOf_same act 42 _ (by omega))
            | 1, ho, hD =>
              cases ho
              refine rg_val rfl _ (ex_move _ rfl _ s0') (BR.refl _) ?_
              exact congrArg (fun v => [v]) (slotOf_same act 43 _ (by omega))
            | 2, ho, hD =>
              cases ho
              refine rg_val rfl _ (ex_move _ rfl _ s8') (BR.refl _) ?_
              exact congrArg (fun v => [v]) (slotOf_same act 44 _ (by omega))
            | 3, ho, hD =>
              cases ho
              refine rg_val rfl _ (ex_move _ rfl _ s8') (BR.refl _) ?_
              exact congrArg (fun v => [v]) (slotOf_same act 45 _ (by omega))
            | 4, ho, hD =>
              cases ho
              have e1 := slot_tmps (List.cons.inj (hD 1 (by decide))).1
              have e2 := slot_tmps (List.cons.inj (hD 2 (by decide))).1
              have e3 := slot_tmps (List.cons.inj (hD 3 (by decide))).1
              have hsl := slice_all hlc (fun h => hI.at_ (fun e => h (by rw [e]; rfl))) w1
              refine rg_val rfl (.slice a l.length l.length) (by simp [go_sem, e1, e2, e3, hsl]) (BR.refl _) ?_
              exact congrArg (fun v => [v]) (slotOf_same act 46 _ (by omega))
            | 5, ho, hD =>
              cases ho
              refine rg_val rfl _ (ex_move _ rfl _ s10') (BR.refl _) ?_
              exact congrArg (fun v => [v]) (slotOf_same act 47 _ (by omega))
            | 6, ho, hD =>
              cases ho
              have e5 := slot_tmps (List.cons.inj (hD 5 (by decide))).1
              refine rg_wp rfl rfl ?_
              refine wp_of_run (v := .slice (some ⟨w1.heap.size, 0, none⟩) 1 1) (w' := w1.alloc (.cells #[i64 j] 3)) (by simp [go_sem, e5]) ?_
              exact ⟨_, rfl, (Below.refl _ _).alloc (Nat.le_refl _) _, _, congrArg (fun v => [v]) (slotOf_same act 48 _ (by omega)), heap_alloc_new _ _⟩
            | 7, ho, hD =>
              cases ho
              have e4 : act.eval (.tmp 46) = .slice a l.length l.length := (List.cons.inj (hD 4 (by decide))).1
              obtain ⟨g, d6, hg⟩ := hD 6 (by decide)
              have e6 : act.eval (.tmp 48) = .slice (some ⟨g, 0, none⟩) 1 1 := (List.cons.inj d6).1
              have hI2 := hI1.same (Same.of_below hR)
              obtain ⟨v', w2, hrun, hL, hb⟩ := append_new (W := w1) (x := (j : Int)) hI2.at_ hI2.cell (by omega) hg
              refine rg_wp rfl rfl ?_
              refine wp_of_run (v := v') (w' := w2) (ex_append _ _ _ rfl (by rw [e4, e6]; exact hrun)) ?_
              exact ⟨_, rfl, hb, _, congrArg (fun v => [v]) (slotOf_same act 49 _ (by omega)), hL⟩
            | 8, ho, hD =>
              cases ho
              refine rg_val rfl _ (ex_move _ rfl _ s1') (BR.refl _) ?_
              exact congrArg (fun v => [v]) (slotOf_same act 50 _ (by omega))
            | 9, ho, hD =>
              cases ho
              have e0 := slot_tmps (List.cons.inj (hD 0 (by decide))).1
              obtain ⟨v', d7, hL⟩ := hD 7 (by decide)
              have e7 := slot_tmps (List.cons.inj d7).1
              have e8 := slot_tmps (List.cons.inj (hD 8 (by decide))).1
              refine rg_call rfl 71 #[v', i64 many, .pointer (some ⟨xb, 0, none⟩), .pointer (some ⟨cb, 0, none⟩)] (by simp [go_sem, e0, e7, e8]) rfl ?_
              refine (ih (l ++ [(j : Int)]) v' w1 (by simp; omega) hmany hris' hCap2 hL).mono ?_
              rintro e w2 ⟨v2, rfl, hb, hch⟩
              rw [hqq.out] at hch
              exact ⟨_, rfl, hb, v2, congrArg (fun v => [v]) (by rw [hqq.out]; exact slotOf_same act 51 _ (by omega)), hch⟩
            | 10, ho, hD =>
              cases ho
              obtain ⟨v', d9, hL⟩ := hD 9 (by decide)
              have e9 : act.eval (.tmp 51) = _ := (List.cons.inj d9).1
              refine rg_val rfl _ (ex_move _ rfl _ e9) (BR.refl _) ?_
              exact ⟨v', congrArg (fun v => [v]) (slotOf_same act 41 _ (by omega)), hL⟩
            | 11, ho, hD =>
              cases ho
              obtain ⟨v', d9, hL⟩ := hD 10 (by decide)
              have e9 : act.eval (.tmp 41) = _ := (List.cons.inj d9).1
              refine rg_val rfl v' (ex_extract _ _ rfl _ _ e9 rfl) (BR.refl _) ?_
              exact ⟨v', congrArg (fun v => [v]) (slotOf_same act 52 _ (by omega)), hL⟩
            | 12, ho, hD =>
              cases ho
              obtain ⟨v', d9, hL⟩ := hD 10 (by decide)
              have e9 : act.eval (.tmp 41) = _ := (List.cons.inj d9).1
              refine rg_val rfl (.bool q.isSome) (ex_extract _ _ rfl _ _ e9 rfl) (BR.refl _) ?_
              exact congrArg (fun v => [v]) (slotOf_same act 53 _ (by omega))
            | 13, ho, hD =>
              cases ho
              obtain ⟨v', d9, hL⟩ := hD 11 (by decide)
              have e9 : act.eval (.tmp 52) = _ := (List.cons.inj d9).1
              refine rg_val rfl v' (ex_assign _ rfl _ e9) (BR.refl _) ?_
              exact ⟨v', congrArg (fun v => [v]) (slotOf_same act 11 _ (by omega)), hL⟩
            | 14, ho, hD =>
              cases ho
              have e9 : act.eval (.tmp 53) = .bool q.isSome := (List.cons.inj (hD 12 (by decide))).1
              refine rg_val rfl _ (ex_assign _ rfl _ e9) (BR.refl _) ?_
              exact congrArg (fun v => [v]) (slotOf_same act 12 _ (by omega))
            | _ + 15, ho, _ => cases ho
          · intro act w1 hR hF hA
            have f0 : slotOf act 0 = .slice a l.length c := hF.slot 0 (by kernel_rfl)
            have f1 : slotOf act 1 = i64 many := hF.slot 1 (by kernel_rfl)
            have f2 : slotOf act 2 = .pointer (some ⟨xb, 0, none⟩) := hF.slot 2 (by kernel_rfl)
            have f3 : slotOf act 3 = .pointer (some ⟨cb, 0, none⟩) := hF.slot 3 (by kernel_rfl)
            have f8 : slotOf act 8 = i64 l.length := hF.slot 8 (by kernel_rfl)
            have f10 : slotOf act 10 = i64 j := hF.slot 10 (by kernel_rfl)
            have f4 : slotOf act 4 = undef := hF.slot 4 (by kernel_rfl)
            have f5 : slotOf act 5 = undef := hF.slot 5 (by kernel_rfl)
            have f9 : slotOf act 9 = .int .i64 ((y : Int) + 1) := hF.slot 9 (by kernel_rfl)
            have f13 : slotOf act 13 = .slice a l.length c := hF.slot 13 (by kernel_rfl)
            have f14 : slotOf act 14 = .int .i64 l.length := hF.slot 14 (by kernel_rfl)
            have f15 : slotOf act 15 = .int .i64 l.length := hF.slot 15 (by kernel_rfl)
            have f16 : slotOf act 16 = i64 many := hF.slot 16 (by kernel_rfl)
            have f17 : slotOf act 17 = .bool false := hF.slot 17 (by kernel_rfl)
            have f18 : slotOf act 18 = undef := hF.slot 18 (by kernel_rfl)
            have f19 : slotOf act 19 = undef := hF.slot 19 (by kernel_rfl)
            have f20 : slotOf act 20 = undef := hF.slot 20 (by kernel_rfl)
            have f21 : slotOf act 21 = undef := hF.slot 21 (by kernel_rfl)
            have f22 : slotOf act 22 = undef := hF.slot 22 (by kernel_rfl)
            have f23 : slotOf act 23 = undef := hF.slot 23 (by kernel_rfl)
            have f24 : slotOf act 24 = undef := hF.slot 24 (by kernel_rfl)
            have f25 : slotOf act 25 = .int .i64 l.length := hF.slot 25 (by kernel_rfl)
            have f26 : slotOf act 26 = .bool true := hF.slot 26 (by kernel_rfl)
            have f27 : slotOf act 27 = .slice a l.length c := hF.slot 27 (by kernel_rfl)
            have f28 : slotOf act 28 = .int .i64 l.length := hF.slot 28 (by kernel_rfl)
            have f29 : slotOf act 29 = .int .i64 ((l.length : Int) - 1) := hF.slot 29 (by kernel_rfl)
            have f30 : slotOf act 30 = .pointer (some ⟨b, o + (l.length - 1), none⟩) := hF.slot 30 (by kernel_rfl)
            have f31 : slotOf act 31 = i64 y := hF.slot 31 (by kernel_rfl)
            have f32 : slotOf act 32 = .int .i64 ((y : Int) + 1) := hF.slot 32 (by kernel_rfl)
            have f33 : slotOf act 33 = .int .i64 ((y : Int) + 1) := hF.slot 33 (by kernel_rfl)
            obtain ⟨v', d13, hch⟩ := hA 13 (by decide)
            have f11 : slotOf act 11 = v' := (List.cons.inj d13).1
            have f12 : slotOf act 12 = .bool q.isSome := (List.cons.inj (hA 14 (by decide))).1
            rw [act_eta act 56 hF.size hF.defers]
            simp only [show List.range 56 = [0, 1, 2, 3, 4, 5, 6, 7, 8, 9, 10, 11, 12, 13, 14, 15, 16, 17, 18, 19, 20, 21, 22, 23, 24, 25, 26, 27, 28, 29, 30, 31, 32, 33, 34, 35, 36, 37, 38, 39, 40, 41, 42, 43, 44, 45, 46, 47, 48, 49, 50, 51, 52, 53, 54, 55] from rfl, List.map_cons, List.map_nil, f0, f1, f2, f3, f8, f10, f11, f12, f4, f5, f9, f13, f14, f15, f16, f17, f18, f19, f20, f21, f22, f23, f24, f25, f26, f27, f28, f29, f30, f31, f32, f33]
            clear hA hF d13 f0 f1 f2 f3 f8 f10 f11 f12 f4 f5 f9 f13 f14 f15 f16 f17 f18 f19 f20 f21 f22 f23 f24 f25 f26 f27 f28 f29 f30 f31 f32 f33 hxc hxl
            have hbw2 : Below w.heap.size w w1 := hbw.trans (Below.mono hR hbw.size)
            cases q with
            | none =>
              have hno2 : Hid (∀ i : Nat, (y + 1) ≤ i → i < j + 1 → chooseB B d (l ++ [(i : Int)]) = none) := fun i h1 h2 => by
                rcases Nat.lt_or_ge i j with h' | h'
                · exact hno.out i h1 h'
                · obtain rfl : i = j := by omega
                  exact hqq.out
              clear hno hqq
              go_wp2_with fail
              go_roundw
              case rel =>
                first
                  | exact ⟨j + 1, by omega, by omega, by go_num, hbw2, hno2⟩
                  | ((repeat apply Exists.intro); refine ⟨?_, rfl⟩; exact ⟨j + 1, by omega, by omega, by go_num, hbw2, hno2⟩)
              case measure => simp [intOf]; omega
            | some r =>
              have hfin : Hid (chooseB B (d + 1) l = some r) := by
                show _ = _
                rw [hchs.out, scan_some]
                exact ⟨j, by rw [hs0.out]; exact hj1, by rw [hs0.out]; omega, hqq.out, fun i h1 h2 => hno.out i (by rw [hs0.out] at h1; exact h1) h2⟩
              clear hno hqq
              go_wp2_with fail
              refine bodyPost_ret (results_tmp2 rfl _ _) rfl ?_
              refine ⟨v', by rw [hfin.out]; rfl, hbw2, ?_⟩
              rw [hfin.out]
              exact hch
        · have hfin : Hid (chooseB B (d + 1) l = none) := by
            show _ = _
            rw [hchs.out, scan_none]
            intro i h1 h2
            rw [hs0.out] at h1 h2
            exact hno.out i h1 (by omega)
          have hlt' : ¬ (j : Int) < (B.sounds.length : Int) := by omega
          go_wp2_with fail
          refine bodyPost_ret (results_tmp2 rfl _ _) rfl ?_
          refine ⟨.slice none 0 0, by rw [hfin.out]; rfl, hbw, fun r hr => by rw [hfin.out] at hr; cases hr⟩
end Go.Proofs.YtkbmpkdflgimmaaDoor
