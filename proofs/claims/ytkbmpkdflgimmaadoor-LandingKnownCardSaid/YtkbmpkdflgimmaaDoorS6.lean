/- Pure2, Choose, Wrong, Help1, Help2, Moor1, Forms in one text. (Printed by merge.py.) -/
import Derived.Test.YtkbmpkdflgimmaaDoorS4
import Derived.ArgAppend
import Derived.Laws.EntriesVeiled
import Derived.Outline
import Derived.Deep.QuietTactic
import Derived.Test.YtkbmpkdflgimmaaDoorS5
/- Plain laws: how the soundings that must be wrong are chosen. -/
namespace Go.Proofs.YtkbmpkdflgimmaaDoor

def okB (B : Book) (l : List Int) : Bool := !(ext0 B (dep B.sounds l)).isEmpty
def startOf (l : List Int) : Nat := match l.getLast? with
  | some x => (x + 1).toNat
  | none => 0
/-- The first of some numbers that yields something. -/
def scan {α : Type} (f : Nat → Option α) : Nat → Nat → Option α
  | 0, _ => none
  | m + 1, s => match f s with
    | some r => some r
    | none => scan f m (s + 1)
theorem scan_none {α : Type} {f : Nat → Option α} : ∀ {m s : Nat}, scan f m s = none ↔ ∀ i, s ≤ i → i < s + m → f i = none
  | 0, s => ⟨fun _ i h1 h2 => (by omega), fun _ => rfl⟩
  | m + 1, s => by
    unfold scan
    cases hf : f s with
    | some r =>
      refine ⟨fun h => (by simp at h), fun h => ?_⟩
      have := h s (Nat.le_refl _) (by omega)
      rw [hf] at this
      cases this
    | none =>
      simp only
      rw [scan_none]
      constructor
      · intro h i h1 h2
        rcases Nat.lt_or_ge s i with h3 | h3
        · exact h i h3 (by omega)
        · obtain rfl : i = s := by omega
          exact hf
      · intro h i h1 h2
        exact h i (by omega) (by omega)
theorem scan_some {α : Type} {f : Nat → Option α} {r : α} : ∀ {m s : Nat}, scan f m s = some r ↔ ∃ j, s ≤ j ∧ j < s + m ∧ f j = some r ∧ ∀ i, s ≤ i → i < j → f i = none
  | 0, s => ⟨fun h => (by cases h), fun ⟨j, h1, h2, _⟩ => (by omega)⟩
  | m + 1, s => by
    unfold scan
    cases hf : f s with
    | some q =>
      constructor
      · intro h
        exact ⟨s, Nat.le_refl _, by omega, by rw [hf]; exact h, fun i h1 h2 => by omega⟩
      · rintro ⟨j, h1, h2, h3, h4⟩
        rcases Nat.lt_or_ge s j with h5 | h5
        · have := h4 s (Nat.le_refl _) h5
          rw [hf] at this
          cases this
        · obtain rfl : j = s := by omega
          rw [hf] at h3
          exact h3
    | none =>
      simp only
      rw [scan_some]
      constructor
      · rintro ⟨j, h1, h2, h3, h4⟩
        refine ⟨j, by omega, by omega, h3, fun i h5 h6 => ?_⟩
        rcases Nat.lt_or_ge s i with h7 | h7
        · exact h4 i h7 h6
        · obtain rfl : i = s := by omega
          exact hf
      · rintro ⟨j, h1, h2, h3, h4⟩
        have : s < j := by
          rcases Nat.lt_or_ge s j with h5 | h5
          · exact h5
          · obtain rfl : j = s := by omega
            rw [hf] at h3
            cases h3
        exact ⟨j, this, by omega, h3, fun i h5 h6 => h4 i (by omega) h6⟩
def chooseB (B : Book) : Nat → List Int → Option (List Int)
  | 0, l => if okB B l then some l else none
  | d + 1, l => scan (fun i => chooseB B d (l ++ [(i : Int)])) (B.sounds.length - startOf l) (startOf l)
theorem chooseB_succ (B : Book) (d : Nat) (l : List Int) : chooseB B (d + 1) l = scan (fun i => chooseB B d (l ++ [(i : Int)])) (B.sounds.length - startOf l) (startOf l) := rfl
def wrongL (B : Book) : List Int := (scan (fun many => chooseB B many []) (B.sounds.length + 1) 0).getD []
def wrongR (B : Book) : List Int × Int := if B.valid then (wrongL B, 0) else ([], 20)
/-- What has been chosen so far: increasing numbers of soundings. -/
def Rising (n : Nat) (l : List Int) : Prop := l.Pairwise (· < ·) ∧ ∀ x ∈ l, 0 ≤ x ∧ x < n
theorem Rising.snoc {n : Nat} {l : List Int} (h : Rising n l) {i : Nat} (h1 : startOf l ≤ i) (h2 : i < n) : Rising n (l ++ [(i : Int)]) := by
  refine ⟨List.pairwise_append.2 ⟨h.1, List.pairwise_singleton _ _, fun x hx y hy => ?_⟩, fun x hx => ?_⟩
  · obtain rfl := List.mem_singleton.1 hy
    obtain ⟨l', z, rfl⟩ : ∃ l' z, l = l' ++ [z] := ⟨l.dropLast, l.getLast (List.ne_nil_of_mem hx), (List.dropLast_concat_getLast _).symm⟩
    have hz := h.2 z (by simp)
    have hs : startOf (l' ++ [z]) = (z + 1).toNat := by simp [startOf]
    rcases List.mem_append.1 hx with hx | hx
    · have := (List.pairwise_append.1 h.1).2.2 x hx z (by simp)
      omega
    · obtain rfl := List.mem_singleton.1 hx
      omega
  · rcases List.mem_append.1 hx with hx | hx
    · exact h.2 x hx
    · obtain rfl := List.mem_singleton.1 hx
      omega
theorem startOf_le {n : Nat} {l : List Int} (h : Rising n l) : startOf l ≤ n := by
  unfold startOf
  cases hl : l.getLast? with
  | none => simp
  | some x =>
    have := h.2 x (List.mem_of_getLast? hl)
    simp only
    omega
theorem rising_nil (n : Nat) : Rising n [] := ⟨List.Pairwise.nil, fun x hx => by cases hx⟩
end Go.Proofs.YtkbmpkdflgimmaaDoor
/- The contract of Wrong's closure: the first list of so many soundings without which the book can be true. -/
namespace Go.Proofs.YtkbmpkdflgimmaaDoor
open Go.RowKit Go.Shelf

theorem GL.up {n m : Nat} {W : World} (h : GL n W) (hn : n ≤ m) : GL m W := ⟨Nat.le_trans h.n3 hn, h.now0, h.now1, h.unk0, h.unk1⟩
theorem Env.up {n m : Nat} {W : World} {B : Book} {tb tq : Nat} {ta : Option Addr} {sb sq : Nat} {sa : Option Addr} (h : Env n W B tb tq ta sb sq sa) (hn : n ≤ m) : Env m W B tb tq ta sb sq sa := ⟨h.gl.up hn, h.tides.up hn, h.sounds.up hn⟩
/-- A slice value that reads as a list. -/
def ListV (W : World) (v : Value) (l : List Int) : Prop := ∃ b o a c, v = .slice a l.length c ∧ l.length ≤ c ∧ IntsAt W.heap.size W b o a l
theorem ListV.below {W W' : World} {v : Value} {l : List Int} (h : ListV W v l) (hb : Below W.heap.size W W') : ListV W' v l := by
  obtain ⟨b, o, a, c, h1, h2, h3⟩ := h
  exact ⟨b, o, a, c, h1, h2, (h3.same (Same.of_below hb)).up hb.size⟩
theorem ListV.of_row {W : World} {base : Nat} {v : Value} {l : List Int} (h : W.ownsRow base 3 1 v l.length (l.map i64)) (hl : l.length ≤ 1000) : ListV W v l := by
  rcases h.2 with ⟨rfl, h0⟩ | ⟨g, cap, cur, rfl, h3, h4, h5, h6, h7, h8⟩
  · have : l = [] := List.length_eq_zero_iff.1 h0
    subst this
    exact ⟨0, 0, none, 0, rfl, Nat.le_refl _, ⟨by simp, fun h => absurd rfl h, fun h => absurd rfl h, fun k h => by simp at h⟩⟩
  · refine ⟨g, 0, some ⟨g, 0, none⟩, cap, rfl, h5, ⟨by omega, fun _ => rfl, fun _ => (Array.getElem?_eq_some_iff.1 h4).1, fun k hk => ?_⟩⟩
    have := h.cells (g := g) rfl k (i64 l[k]) (by simp [hk])
    rw [addr_add] at this
    simpa using this
theorem addr_add0 (g o : Nat) : (⟨g, o, none⟩ : Addr).add 0 = ⟨g, o, none⟩ := by unfold Addr.add; split <;> simp_all
theorem slice_all {a : Option Addr} {n c b o : Nat} (hn : n ≤ c) (ha : n ≠ 0 → a = some ⟨b, o, none⟩) (W : World) :
    (Instr.slice 40 (.slice a n c) none (some (i64 n)) (some (i64 n))).run Tryd.prog W = .ok (.slice a n n) W := by
  have hu : Tryd.prog.underlying 40 = some (.slice (Tryd.prog.elem 40)) := by kernel_rfl
  have hs : (sizeOf (Tryd.prog.elem 40)).run Tryd.prog W = .ok 1 W := by kernel_rfl
  rw [run_slice_hm W 40 a n c hu .i64 .i64 n n (by omega) (by omega) (by omega), hs]
  simp only [Result.andThen, sliced, Nat.zero_mul, Int.toNat_natCast, Nat.sub_zero]
  by_cases h0 : n = 0
  · rw [if_pos h0]
  · rw [if_neg h0, ha h0]
    simp only [Option.map_some, addr_add0]
/-- What Wrong's closure reads. -/
structure Cap (nA xb cb : Nat) (B : Book) (tb tq : Nat) (ta : Option Addr) (tc : Nat) (sb sq : Nat) (sa : Option Addr) (sc : Nat) (W : World) : Prop where
  env : Env nA W B tb tq ta sb sq sa
  na : nA ≤ W.heap.size
  x : W.heap[xb]? = some (.cells (bookCells B ta tc sa sc) 30 (0, 0))
  c : W.heap[cb]? = some (.cells #[.func (.func 71) #[] #[.pointer (some ⟨xb, 0, none⟩), .pointer (some ⟨cb, 0, none⟩)]] 95 (0, 0))
theorem Cap.below {nA xb cb : Nat} {B : Book} {tb tq : Nat} {ta : Option Addr} {tc : Nat} {sb sq : Nat} {sa : Option Addr} {sc : Nat} {W W' : World} (h : Cap nA xb cb B tb tq ta tc sb sq sa sc W) (hb : Below W.heap.size W W') : Cap nA xb cb B tb tq ta tc sb sq sa sc W' :=
  ⟨h.env.below h.na hb, Nat.le_trans h.na hb.size, (hb.block _ (Array.getElem?_eq_some_iff.1 h.x).1).trans h.x, (hb.block _ (Array.getElem?_eq_some_iff.1 h.c).1).trans h.c⟩
/-- What it answers: a value, and whether there is such a list; if there is one, the value reads as it. -/
def ChR (q : Option (List Int)) (W : World) (v : Value) : Prop := ∀ r, q = some r → ListV W v r
def ChoosePost (q : Option (List Int)) (w : World) (e : Ending) (w' : World) : Prop := ∃ v, e = .returned (.tuple #[v, .bool q.isSome]) ∧ Below w.heap.size w w' ∧ ChR q w' v
theorem ChR.below {q : Option (List Int)} {W W' : World} {v : Value} (h : ChR q W v) (hb : Below W.heap.size W W') : ChR q W' v := fun r hr => (h r hr).below hb
section
variable {P : Program} {o : Oper} {a : Act} {w : World}
theorem ex_append (s x : Operand) (t : TypeId) (ho : o.op = .call { callee := .builtin .append, args := #[s, x], argTypes := #[t, t] }) {v' : Value} {w' : World} (hr : (Builtin.append_ #[t, t] o.type #[a.eval s, a.eval x]).run P w = .ok v' w') : (execOp a.eval o).run P w = .ok (.value v') w' := by
  simp [execOp, ho, resolve, invoke, builtin, hr, Result.andThen]
end
/-- append(s[:k:k], n): a new list. -/
theorem append_new {W : World} {a : Option Addr} {b o g : Nat} {l : List Int} {x : Int} (ha : l ≠ [] → a = some ⟨b, o, none⟩) (hc : ∀ k (h : k < l.length), W.cell? ⟨b, o + k, none⟩ = some (i64 l[k])) (hl : l.length ≤ 100) (hg : W.heap[g]? = some (.cells #[i64 x] 3 (0, 0))) :
    ∃ v' w', (Builtin.append_ #[40, 40] 40 #[.slice a l.length l.length, .slice (some ⟨g, 0, none⟩) 1 1]).run Tryd.prog W = .ok v' w' ∧ ListV w' v' (l ++ [x]) ∧ Below W.heap.size W w' := by
  obtain ⟨i0, hi, hz0, hz1, hz2⟩ := info_parts info3
  have hn : ∀ j u, [i64 x][j]? = some u → W.cell? ((⟨g, 0, none⟩ : Addr).add j) = some u := fun j u hj => by
    cases j with
    | succ j => simp at hj
    | zero => rw [addr_add]; simpa using (cells_of hg 0).trans hj
  have fin : ∀ v' w', w'.ownsRow W.heap.size 3 1 v' (l.length + 1) (l.map i64 ++ [i64 x]) → W.grownBy w' none → ListV w' v' (l ++ [x]) ∧ Below W.heap.size W w' := fun v' w' h1 h2 => by
    refine ⟨ListV.of_row (base := W.heap.size) (by simpa using h1) (by simp; omega), ⟨h2.os, h2.tape, h2.output, h2.size, fun k hk => h2.block k hk (by simp)⟩⟩
  cases a with
  | some ad =>
    obtain ⟨v', w', hrun, r1, r2⟩ := run_append_arg_grows (P := Tryd.prog) W 40 40 3 i0 (i64 0) 1 8 Tryd.underlying40 hi hz0 hz1 hz2 rfl (by decide) ad l.length l.length (l.map i64) (by simp) (fun j u hj => by
      have hjl : j < l.length := by have := (List.getElem?_eq_some_iff.1 hj).1; simpa using this
      have e := ha (ne_nil_of_lt hjl)
      obtain rfl := Option.some.inj e
      rw [show (⟨b, o, none⟩ : Addr).add j = ⟨b, o + j, none⟩ by unfold Addr.add; split <;> simp_all, hc j hjl]
      simpa [hjl] using hj) ⟨g, 0, none⟩ 1 1 [i64 x] rfl hn (by omega) (by unfold maxLen; omega) (by omega)
    exact ⟨v', w', hrun, fin v' w' r1 r2⟩
  | none =>
    have h0 : l = [] := by
      cases l with
      | nil => rfl
      | cons y l => cases ha (by simp)
    subst h0
    obtain ⟨v', w', hrun, r1, r2, _⟩ := run_append_own (P := Tryd.prog) W W.heap.size 40 40 3 i0 (i64 0) 1 8 Tryd.underlying40 hi hz0 hz1 hz2 rfl (by decide) (.slice none 0 0) 0 [] (World.ownsRow_nil W _ 3 1) ⟨g, 0, none⟩ 1 1 [i64 x] rfl hn (by simp [Value.oneCell']) (by unfold maxLen; omega) (by omega) (Nat.le_refl _)
    exact ⟨v', w', hrun, fin v' w' (by simpa using r1) r2⟩
def rdCh (i : Nat) : List Nat := match i with
  | 0 => [42] | 1 => [43] | 2 => [44] | 3 => [45] | 4 => [46] | 5 => [47] | 6 => [48] | 7 => [49] | 8 => [50] | 9 => [51] | 10 => [41] | 11 => [52] | 12 => [53] | 13 => [11] | 14 => [12] | _ => []
def pureCh (i : Nat) : Bool := match i with
  | 6 => false | 7 => false | 9 => false | _ => true
def gCh (xb cb : Nat) (l : List Int) (a : Option Addr) (c : Nat) (n many : Int) (q : Option (List Int)) (l' : List Int) (i : Nat) (vs : List Value) (W : World) : Prop := match i with
  | 0 => vs = [.func (.func 71) #[] #[.pointer (some ⟨xb, 0, none⟩), .pointer (some ⟨cb, 0, none⟩)]]
  | 1 => vs = [.slice a l.length c]
  | 2 => vs = [i64 l.length]
  | 3 => vs = [i64 l.length]
  | 4 => vs = [.slice a l.length l.length]
  | 5 => vs = [i64 n]
  | 6 => ∃ g, vs = [.slice (some ⟨g, 0, none⟩) 1 1] ∧ W.heap[g]? = some (.cells #[i64 n] 3 (0, 0))
  | 7 => ∃ v, vs = [v] ∧ ListV W v l'
  | 8 => vs = [i64 many]
  | 9 => ∃ v, vs = [.tuple #[v, .bool q.isSome]] ∧ ChR q W v
  | 10 => ∃ v, vs = [.tuple #[v, .bool q.isSome]] ∧ ChR q W v
  | 11 => ∃ v, vs = [v] ∧ ChR q W v
  | 12 => vs = [.bool q.isSome]
  | 13 => ∃ v, vs = [v] ∧ ChR q W v
  | 14 => vs = [.bool q.isSome]
  | _ => True
/-- Nothing that there was has changed. -/
def BR (W W' : World) : Prop := Below W.heap.size W W'
theorem BR.refl (W : World) : BR W W := Below.refl _ _
theorem BR.trans {A B C : World} (h : BR A B) (k : BR B C) : BR A C := Below.trans h (Below.mono k h.size)
theorem BR.drawn (W : World) (n : Nat) : BR W { W with drawn := n } := ⟨rfl, rfl, rfl, Nat.le_refl _, fun _ _ => rfl⟩
set_option maxRecDepth 100000 in
set_option maxHeartbeats 4000000 in
theorem choose_any (nA xb cb : Nat) (B : Book) (tb tq : Nat) (ta : Option Addr) (tc : Nat) (sb sq : Nat) (sa : Option Addr) (sc : Nat) (hV : VB B) (many : Nat) : ∀ (d : Nat) (l : List Int) (v : Value) (w : World), l.length + d = many → many ≤ 10 → Rising B.sounds.length l → Cap nA xb cb B tb tq ta tc sb sq sa sc w → ListV w v l →
    Calls Tryd.prog 71 #[v, i64 many, .pointer (some ⟨xb, 0, none⟩), .pointer (some ⟨cb, 0, none⟩)] w (ChoosePost (chooseB B d l) w) := by
  intro d
  induction d with
  | zero =>
    rintro l v w hm hmany hris hCap ⟨b, o, a, c, rfl, hlc, hI⟩
    have hm' : l.length = many := by omega
    subst hm'
    have hlen := hI.len
    have hxb := hCap.x
    have hE := hCap.env
    have hq : Hid (chooseB B 0 l = if decide (0 < (ext0 B (dep B.sounds l)).length) = true then some l else none) := Lib.hid (by
      have : okB B l = decide (0 < (ext0 B (dep B.sounds l)).length) := by unfold okB; cases ext0 B (dep B.sounds l) <;> simp
      simp only [chooseB, this])
    have hf := field93_2 B ta tc sa sc
    go_enter Tryd.func71, Tryd.ntmps71
    go_wp2_with (first | (refine ld30 rfl _ rfl _ _ rfl hxb rfl ?_) | (go_at_call 70; refine (opened_any w.heap.size B tb tq ta tc sb sq sa sc b o a c l _ hV (Nat.le_refl _) (hE.gl.up hCap.na) (hE.tides.up hCap.na) (hE.sounds.up hCap.na) hI).mono ?_; rintro e w2 ⟨m, ca, cc, rfl, hb2, _, _⟩))
    refine bodyPost_ret (results_tmp2 rfl _ _) rfl ?_
    refine ⟨.slice a l.length c, ?_, hb2, fun r hr => ?_⟩
    · rw [hq.out]
      by_cases h0 : 0 < (ext0 B (dep B.sounds l)).length
      · simp [h0]
      · simp [h0]
    · rw [hq.out] at hr
      split at hr
      · cases hr
        exact ListV.below ⟨b, o, a, c, rfl, hlc, hI⟩ hb2
      · cases hr
  | succ d ih =>
    rintro l v w hm hmany hris hCap ⟨b, o, a, c, rfl, hlc, hI⟩
    have hneq : ((l.length : Int) == (many : Int)) = false := by simp; omega
    have hlen := hI.len
    have hxc := cells_of hCap.x
    have hxl := (Array.getElem?_eq_some_iff.1 hCap.x).1
    have hs6 := hV.s6
    have hst := startOf_le hris
    have hchs := Lib.hid (chooseB_succ B d l)
    obtain ⟨s0, hs0⟩ : ∃ s0, startOf l = s0 := ⟨_, rfl⟩
    rw [hs0] at hst
    rcases Nat.eq_zero_or_pos l.length with h0 | h0
    · have hz0 : s0 = 0 := by rw [← hs0, List.length_eq_zero_iff.1 h0]; rfl
      obtain rfl : l = [] := List.length_eq_zero_iff.1 h0
      have hneq0 : ((0 : Int) == (many : Int)) = false := hneq
      subst hz0
      have hs0 := Lib.hid hs0
      clear h0
      go_enter Tryd.func71, Tryd.ntmps71
      go_wp2_with fail
      go_loopw [10] (fun i wr => ∃ j : Nat, 0 ≤ j ∧ j ≤ B.sounds.length ∧ i = .int .i64 j ∧ Below w.heap.size w wr ∧ Hid (∀ i : Nat, 0 ≤ i → i < j → chooseB B d (([] : List Int) ++ [(i : Int)]) = none)) (fun i _ => B.sounds.length - (intOf i).toNat)
      case atStart => exact ⟨0, Nat.le_refl _, hst, by first | rfl | go_num, Below.refl _ _, fun i h1 h2 => by omega⟩
      case round =>
        clear hxc hxl 
        obtain ⟨j, hj1, hj2, rfl, hbw, hno⟩ := hrel
        have hCap1 := hCap.below hbw
        have hxc := cells_of hCap1.x
        have hxl := (Array.getElem?_eq_some_iff.1 hCap1.x).1
        by_cases hlt : j < B.sounds.length
        · have hris' : Rising B.sounds.length (([] : List Int) ++ [(j : Int)]) := hris.snoc (by rw [hs0.out]; exact hj1) hlt
          have hI1 : IntsAt wr.heap.size wr b o a ([] : List Int) := (hI.same (Same.of_below hbw)).up hbw.size
          obtain ⟨q, hqq⟩ : ∃ q, chooseB B d (([] : List Int) ++ [(j : Int)]) = q := ⟨_, rfl⟩
          have hqq := Lib.hid hqq
          go_wp2_with fail
          refine rg_region rdCh pureCh (gCh xb cb ([] : List Int) a c j many q (([] : List Int) ++ [(j : Int)])) BR (by kernel_rfl) (by kernel_rfl) (fun n => BR.drawn _ n) BR.refl (fun _ _ _ => BR.trans) ?_ ?_ ?_
          · intro i hi vs w1 w2 hG hR
            match i, hi, hG with
            | 0, _, hG => exact hG
            | 1, _, hG => exact hG
            | 2, _, hG => exact hG
            | 3, _, hG => exact hG
            | 4, _, hG => exact hG
            | 5, _, hG => exact hG
            | 6, _, hG => obtain ⟨g, h1, h2⟩ := hG; exact ⟨g, h1, (hR.block _ (Array.getElem?_eq_some_iff.1 h2).1).trans h2⟩
            | 7, _, hG => obtain ⟨v, h1, h2⟩ := hG; exact ⟨v, h1, h2.below hR⟩
            | 8, _, hG => exact hG
            | 9, _, hG => obtain ⟨v, h1, h2⟩ := hG; exact ⟨v, h1, h2.below hR⟩
            | 10, _, hG => obtain ⟨v, h1, h2⟩ := hG; exact ⟨v, h1, h2.below hR⟩
            | 11, _, hG => obtain ⟨v, h1, h2⟩ := hG; exact ⟨v, h1, h2.below hR⟩
            | 12, _, hG => exact hG
            | 13, _, hG => obtain ⟨v, h1, h2⟩ := hG; exact ⟨v, h1, h2.below hR⟩
            | 14, _, hG => exact hG
            | _ + 15, _, _ => trivial
          · intro i op ho act w1 hR hF hD
            have sz : act.tmps.size = 56 := hF.size
            have s0' : act.eval (.tmp 0) = .slice a ([] : List Int).length c := hF.slot 0 (by kernel_rfl)
            have s1' : act.eval (.tmp 1) = i64 many := hF.slot 1 (by kernel_rfl)
            have s3' : act.eval (.tmp 3) = .pointer (some ⟨cb, 0, none⟩) := hF.slot 3 (by kernel_rfl)
            have s8' : act.eval (.tmp 8) = i64 ([] : List Int).length := hF.slot 8 (by kernel_rfl)
            have s10' : act.eval (.tmp 10) = i64 j := hF.slot 10 (by kernel_rfl)
            have hCap2 := hCap1.below hR
            match i, ho, hD with
            | 0, ho, hD =>
              cases ho
              have hcc := cells_of hCap2.c 0
              have e3 := slot_tmps s3'
              refine rg_val rfl (.func (.func 71) #[] #[.pointer (some ⟨xb, 0, none⟩), .pointer (some ⟨cb, 0, none⟩)]) (by simp [go_sem, e3, hcc]) (BR.refl _) ?_
              exact congrArg (fun v => [v]) (slotOf_same act 42 _ (by omega))
            | 1, ho, hD =>
              cases ho
              refine rg_val rfl _ (ex_move _ rfl _ s0') (BR.refl _) ?_
              exact congrArg (fun v => [v]) (slotOf_same act 43 _ (by omega))
            | 2, ho, hD =>
              cases ho
              refine rg_val rfl _ (ex_move _ rfl _ s8') (BR.refl _) ?_
              exact congrArg (fun v => [v]) (slotOf_same act 44 _ (by omega))
            | 3, ho, hD =>
              cases ho
              refine rg_val rfl _ (ex_move _ rfl _ s8') (BR.refl _) ?_
              exact congrArg (fun v => [v]) (slotOf_same act 45 _ (by omega))
            | 4, ho, hD =>
              cases ho
              have e1 := slot_tmps (List.cons.inj (hD 1 (by decide))).1
              have e2 := slot_tmps (List.cons.inj (hD 2 (by decide))).1
              have e3 := slot_tmps (List.cons.inj (hD 3 (by decide))).1
              have hsl : (Instr.slice 40 (.slice a 0 c) none (some (i64 0)) (some (i64 0))).run Tryd.prog w1 = .ok (.slice a 0 0) w1 := slice_all (n := 0) (b := 0) (o := 0) (a := a) (c := c) (Nat.zero_le _) (fun h => absurd rfl h) w1
              refine rg_val rfl (.slice a ([] : List Int).length ([] : List Int).length) (by simp [go_sem, e1, e2, e3, hsl]) (BR.refl _) ?_
              exact congrArg (fun v => [v]) (slotOf_same act 46 _ (by omega))
            | 5, ho, hD =>
              cases ho
              refine rg_val rfl _ (ex_move _ rfl _ s10') (BR.refl _) ?_
              exact congrArg (fun v => [v]) (slotOf_same act 47 _ (by omega))
            | 6, ho, hD =>
              cases ho
              have e5 := slot_tmps (List.cons.inj (hD 5 (by decide))).1
              refine rg_wp rfl rfl ?_
              refine wp_of_run (v := .slice (some ⟨w1.heap.size, 0, none⟩) 1 1) (w' := w1.alloc (.cells #[i64 j] 3)) (by simp [go_sem, e5]) ?_
              exact ⟨_, rfl, (Below.refl _ _).alloc (Nat.le_refl _) _, _, congrArg (fun v => [v]) (slotOf_same act 48 _ (by omega)), heap_alloc_new _ _⟩
            | 7, ho, hD =>
              cases ho
              have e4 : act.eval (.tmp 46) = .slice a ([] : List Int).length ([] : List Int).length := (List.cons.inj (hD 4 (by decide))).1
              obtain ⟨g, d6, hg⟩ := hD 6 (by decide)
              have e6 : act.eval (.tmp 48) = .slice (some ⟨g, 0, none⟩) 1 1 := (List.cons.inj d6).1
              have hI2 := hI1.same (Same.of_below hR)
              obtain ⟨v', w2, hrun, hL, hb⟩ := append_new (W := w1) (x := (j : Int)) hI2.at_ hI2.cell (by omega) hg
              refine rg_wp rfl rfl ?_
              refine wp_of_run (v := v') (w' := w2) (ex_append _ _ _ rfl (by rw [e4, e6]; exact hrun)) ?_
              exact ⟨_, rfl, hb, _, congrArg (fun v => [v]) (slotOf_same act 49 _ (by omega)), hL⟩
            | 8, ho, hD =>
              cases ho
              refine rg_val rfl _ (ex_move _ rfl _ s1') (BR.refl _) ?_
              exact congrArg (fun v => [v]) (slotOf_same act 50 _ (by omega))
            | 9, ho, hD =>
              cases ho
              have e0 := slot_tmps (List.cons.inj (hD 0 (by decide))).1
              obtain ⟨v', d7, hL⟩ := hD 7 (by decide)
              have e7 := slot_tmps (List.cons.inj d7).1
              have e8 := slot_tmps (List.cons.inj (hD 8 (by decide))).1
              refine rg_call rfl 71 #[v', i64 many, .pointer (some ⟨xb, 0, none⟩), .pointer (some ⟨cb, 0, none⟩)] (by simp [go_sem, e0, e7, e8]) rfl ?_
              refine (ih (([] : List Int) ++ [(j : Int)]) v' w1 (by have hm0 : 0 + (d + 1) = many := hm; simp; omega) hmany hris' hCap2 hL).mono ?_
              rintro e w2 ⟨v2, rfl, hb, hch⟩
              rw [hqq.out] at hch
              exact ⟨_, rfl, hb, v2, congrArg (fun v => [v]) (by rw [hqq.out]; exact slotOf_same act 51 _ (by omega)), hch⟩
            | 10, ho, hD =>
              cases ho
              obtain ⟨v', d9, hL⟩ := hD 9 (by decide)
              have e9 : act.eval (.tmp 51) = _ := (List.cons.inj d9).1
              refine rg_val rfl _ (ex_move _ rfl _ e9) (BR.refl _) ?_
              exact ⟨v', congrArg (fun v => [v]) (slotOf_same act 41 _ (by omega)), hL⟩
            | 11, ho, hD =>
              cases ho
              obtain ⟨v', d9, hL⟩ := hD 10 (by decide)
              have e9 : act.eval (.tmp 41) = _ := (List.cons.inj d9).1
              refine rg_val rfl v' (ex_extract _ _ rfl _ _ e9 rfl) (BR.refl _) ?_
              exact ⟨v', congrArg (fun v => [v]) (slotOf_same act 52 _ (by omega)), hL⟩
            | 12, ho, hD =>
              cases ho
              obtain ⟨v', d9, hL⟩ := hD 10 (by decide)
              have e9 : act.eval (.tmp 41) = _ := (List.cons.inj d9).1
              refine rg_val rfl (.bool q.isSome) (ex_extract _ _ rfl _ _ e9 rfl) (BR.refl _) ?_
              exact congrArg (fun v => [v]) (slotOf_same act 53 _ (by omega))
            | 13, ho, hD =>
              cases ho
              obtain ⟨v', d9, hL⟩ := hD 11 (by decide)
              have e9 : act.eval (.tmp 52) = _ := (List.cons.inj d9).1
              refine rg_val rfl v' (ex_assign _ rfl _ e9) (BR.refl _) ?_
              exact ⟨v', congrArg (fun v => [v]) (slotOf_same act 11 _ (by omega)), hL⟩
            | 14, ho, hD =>
              cases ho
              have e9 : act.eval (.tmp 53) = .bool q.isSome := (List.cons.inj (hD 12 (by decide))).1
              refine rg_val rfl _ (ex_assign _ rfl _ e9) (BR.refl _) ?_
              exact congrArg (fun v => [v]) (slotOf_same act 12 _ (by omega))
            | _ + 15, ho, _ => cases ho
          · intro act w1 hR hF hA
            have f0 : slotOf act 0 = .slice a 0 c := hF.slot 0 (by kernel_rfl)
            have f1 : slotOf act 1 = i64 many := hF.slot 1 (by kernel_rfl)
            have f2 : slotOf act 2 = .pointer (some ⟨xb, 0, none⟩) := hF.slot 2 (by kernel_rfl)
            have f3 : slotOf act 3 = .pointer (some ⟨cb, 0, none⟩) := hF.slot 3 (by kernel_rfl)
            have f8 : slotOf act 8 = .int .i64 0 := hF.slot 8 (by kernel_rfl)
            have f10 : slotOf act 10 = i64 j := hF.slot 10 (by kernel_rfl)
            have f4 : slotOf act 4 = undef := hF.slot 4 (by kernel_rfl)
            have f5 : slotOf act 5 = undef := hF.slot 5 (by kernel_rfl)
            have f9 : slotOf act 9 = .int .i64 0 := hF.slot 9 (by kernel_rfl)
            have f13 : slotOf act 13 = .slice a 0 c := hF.slot 13 (by kernel_rfl)
            have f14 : slotOf act 14 = .int .i64 0 := hF.slot 14 (by kernel_rfl)
            have f15 : slotOf act 15 = .int .i64 0 := hF.slot 15 (by kernel_rfl)
            have f16 : slotOf act 16 = i64 many := hF.slot 16 (by kernel_rfl)
            have f17 : slotOf act 17 = .bool false := hF.slot 17 (by kernel_rfl)
            have f18 : slotOf act 18 = undef := hF.slot 18 (by kernel_rfl)
            have f19 : slotOf act 19 = undef := hF.slot 19 (by kernel_rfl)
            have f20 : slotOf act 20 = undef := hF.slot 20 (by kernel_rfl)
            have f21 : slotOf act 21 = undef := hF.slot 21 (by kernel_rfl)
            have f22 : slotOf act 22 = undef := hF.slot 22 (by kernel_rfl)
            have f23 : slotOf act 23 = undef := hF.slot 23 (by kernel_rfl)
            have f24 : slotOf act 24 = undef := hF.slot 24 (by kernel_rfl)
            have f25 : slotOf act 25 = .int .i64 0 := hF.slot 25 (by kernel_rfl)
            have f26 : slotOf act 26 = .bool false := hF.slot 26 (by kernel_rfl)
            have f27 : slotOf act 27 = undef := hF.slot 27 (by kernel_rfl)
            have f28 : slotOf act 28 = undef := hF.slot 28 (by kernel_rfl)
            have f29 : slotOf act 29 = undef := hF.slot 29 (by kernel_rfl)
            have f30 : slotOf act 30 = undef := hF.slot 30 (by kernel_rfl)
            have f31 : slotOf act 31 = undef := hF.slot 31 (by kernel_rfl)
            have f32 : slotOf act 32 = undef := hF.slot 32 (by kernel_rfl)
            have f33 : slotOf act 33 = .int .i64 0 := hF.slot 33 (by kernel_rfl)
            obtain ⟨v', d13, hch⟩ := hA 13 (by decide)
            have f11 : slotOf act 11 = v' := (List.cons.inj d13).1
            have f12 : slotOf act 12 = .bool q.isSome := (List.cons.inj (hA 14 (by decide))).1
            rw [act_eta act 56 hF.size hF.defers]
            simp only [show List.range 56 = [0, 1, 2, 3, 4, 5, 6, 7, 8, 9, 10, 11, 12, 13, 14, 15, 16, 17, 18, 19, 20, 21, 22, 23, 24, 25, 26, 27, 28, 29, 30, 31, 32, 33, 34, 35, 36, 37, 38, 39, 40, 41, 42, 43, 44, 45, 46, 47, 48, 49, 50, 51, 52, 53, 54, 55] from rfl, List.map_cons, List.map_nil, f0, f1, f2, f3, f8, f10, f11, f12, f4, f5, f9, f13, f14, f15, f16, f17, f18, f19, f20, f21, f22, f23, f24, f25, f26, f27, f28, f29, f30, f31, f32, f33]
            clear hA hF d13 f0 f1 f2 f3 f8 f10 f11 f12 f4 f5 f9 f13 f14 f15 f16 f17 f18 f19 f20 f21 f22 f23 f24 f25 f26 f27 f28 f29 f30 f31 f32 f33 hxc hxl
            have hbw2 : Below w.heap.size w w1 := hbw.trans (Below.mono hR hbw.size)
            cases q with
            | none =>
              have hno2 : Hid (∀ i : Nat, 0 ≤ i → i < j + 1 → chooseB B d (([] : List Int) ++ [(i : Int)]) = none) := fun i h1 h2 => by
                rcases Nat.lt_or_ge i j with h' | h'
                · exact hno.out i h1 h'
                · obtain rfl : i = j := by omega
                  exact hqq.out
              clear hno hqq
              go_wp2_with fail
              go_roundw
              case rel =>
                first
                  | exact ⟨j + 1, by omega, by omega, by go_num, hbw2, hno2⟩
                  | ((repeat apply Exists.intro); refine ⟨?_, rfl⟩; exact ⟨j + 1, by omega, by omega, by go_num, hbw2, hno2⟩)
              case measure => simp [intOf]; omega
            | some r =>
              have hfin : Hid (chooseB B (d + 1) ([] : List Int) = some r) := by
                show _ = _
                rw [hchs.out, scan_some]
                exact ⟨j, by rw [hs0.out]; exact hj1, by rw [hs0.out]; omega, hqq.out, fun i h1 h2 => hno.out i (by rw [hs0.out] at h1; exact h1) h2⟩
              clear hno hqq
              go_wp2_with fail
              refine bodyPost_ret (results_tmp2 rfl _ _) rfl ?_
              refine ⟨v', by rw [hfin.out]; rfl, hbw2, ?_⟩
              rw [hfin.out]
              exact hch
        · have hfin : Hid (chooseB B (d + 1) ([] : List Int) = none) := by
            show _ = _
            rw [hchs.out, scan_none]
            intro i h1 h2
            rw [hs0.out] at h1 h2
            exact hno.out i h1 (by omega)
          have hlt' : ¬ (j : Int) < (B.sounds.length : Int) := by omega
          go_wp2_with fail
          refine bodyPost_ret (results_tmp2 rfl _ _) rfl ?_
          refine ⟨.slice none 0 0, by rw [hfin.out]; rfl, hbw, fun r hr => by rw [hfin.out] at hr; cases hr⟩
    · obtain ⟨y, hy1, hy2⟩ : ∃ y : Nat, l[l.length - 1]'(by omega) = (y : Int) ∧ s0 = y + 1 := by
        have hne : l ≠ [] := ne_nil_of_lt h0
        have hx := hris.2 (l[l.length - 1]'(by omega)) (List.getElem_mem _)
        refine ⟨(l[l.length - 1]'(by omega)).toNat, by omega, ?_⟩
        rw [← hs0]
        unfold startOf
        rw [List.getLast?_eq_getElem?, List.getElem?_eq_getElem (by omega : l.length - 1 < l.length)]
        simp only
        omega
      subst hy2
      have hcy := hI.cell (l.length - 1) (by omega)
      rw [hy1] at hcy
      have hidx : ∀ W, (Instr.indexAt 40 (.slice a l.length c) (.int .i64 ((l.length : Int) - 1))).run Tryd.prog W = .ok (.pointer (some ⟨b, o + (l.length - 1), none⟩)) W := fun W => by
        have := idx40 (n := l.length) (c := c) (k := l.length - 1) W (hI.at_ (ne_nil_of_lt h0)) (by omega)
        rwa [show ((l.length - 1 : Nat) : Int) = (l.length : Int) - 1 by omega] at this
      have hy100 : (y : Int) ≤ 10 := by omega
      clear hy1
      have hs0 := Lib.hid hs0
      have h0' : 0 < (l.length : Int) := by omega
      go_enter Tryd.func71, Tryd.ntmps71
      go_wp2_with fail
      go_loopw [10] (fun i wr => ∃ j : Nat, (y + 1) ≤ j ∧ j ≤ B.sounds.length ∧ i = .int .i64 j ∧ Below w.heap.size w wr ∧ Hid (∀ i : Nat, (y + 1) ≤ i → i < j → chooseB B d (l ++ [(i : Int)]) = none)) (fun i _ => B.sounds.length - (intOf i).toNat)
      case atStart => exact ⟨(y + 1), Nat.le_refl _, hst, by first | rfl | go_num, Below.refl _ _, fun i h1 h2 => by omega⟩
      case round =>
        clear hxc hxl hcy hidx
        obtain ⟨j, hj1, hj2, rfl, hbw, hno⟩ := hrel
        have hCap1 := hCap.below hbw
        have hxc := cells_of hCap1.x
        have hxl := (Array.getElem?_eq_some_iff.1 hCap1.x).1
        by_cases hlt : j < B.sounds.length
        · have hris' : Rising B.sounds.length (l ++ [(j : Int)]) := hris.snoc (by rw [hs0.out]; exact hj1) hlt
          have hI1 : IntsAt wr.heap.size wr b o a l := (hI.same (Same.of_below hbw)).up hbw.size
          obtain ⟨q, hqq⟩ : ∃ q, chooseB B d (l ++ [(j : Int)]) = q := ⟨_, rfl⟩
          have hqq := Lib.hid hqq
          go_wp2_with fail
          refine rg_region rdCh pureCh (gCh xb cb l a c j many q (l ++ [(j : Int)])) BR (by kernel_rfl) (by kernel_rfl) (fun n => BR.drawn _ n) BR.refl (fun _ _ _ => BR.trans) ?_ ?_ ?_
          · intro i hi vs w1 w2 hG hR
            match i, hi, hG with
            | 0, _, hG => exact hG
            | 1, _, hG => exact hG
            | 2, _, hG => exact hG
            | 3, _, hG => exact hG
            | 4, _, hG => exact hG
            | 5, _, hG => exact hG
            | 6, _, hG => obtain ⟨g, h1, h2⟩ := hG; exact ⟨g, h1, (hR.block _ (Array.getElem?_eq_some_iff.1 h2).1).trans h2⟩
            | 7, _, hG => obtain ⟨v, h1, h2⟩ := hG; exact ⟨v, h1, h2.below hR⟩
            | 8, _, hG => exact hG
            | 9, _, hG => obtain ⟨v, h1, h2⟩ := hG; exact ⟨v, h1, h2.below hR⟩
            | 10, _, hG => obtain ⟨v, h1, h2⟩ := hG; exact ⟨v, h1, h2.below hR⟩
            | 11, _, hG => obtain ⟨v, h1, h2⟩ := hG; exact ⟨v, h1, h2.below hR⟩
            | 12, _, hG => exact hG
            | 13, _, hG => obtain ⟨v, h1, h2⟩ := hG; exact ⟨v, h1, h2.below hR⟩
            | 14, _, hG => exact hG
            | _ + 15, _, _ => trivial
          · intro i op ho act w1 hR hF hD
            have sz : act.tmps.size = 56 := hF.size
            have s0' : act.eval (.tmp 0) = .slice a l.length c := hF.slot 0 (by kernel_rfl)
            have s1' : act.eval (.tmp 1) = i64 many := hF.slot 1 (by kernel_rfl)
            have s3' : act.eval (.tmp 3) = .pointer (some ⟨cb, 0, none⟩) := hF.slot 3 (by kernel_rfl)
            have s8' : act.eval (.tmp 8) = i64 l.length := hF.slot 8 (by kernel_rfl)
            have s10' : act.eval (.tmp 10) = i64 j := hF.slot 10 (by kernel_rfl)
            have hCap2 := hCap1.below hR
            match i, ho, hD with
            | 0, ho, hD =>
              cases ho
              have hcc := cells_of hCap2.c 0
              have e3 := slot_tmps s3'
              refine rg_val rfl (.func (.func 71) #[] #[.pointer (some ⟨xb, 0, none⟩), .pointer (some ⟨cb, 0, none⟩)]) (by simp [go_sem, e3, hcc]) (BR.refl _) ?_
              exact congrArg (fun v => [v]) (slotOf_same act 42 _ (by omega))
            | 1, ho, hD =>
              cases ho
              refine rg_val rfl _ (ex_move _ rfl _ s0') (BR.refl _) ?_
              exact congrArg (fun v => [v]) (slotOf_same act 43 _ (by omega))
            | 2, ho, hD =>
              cases ho
              refine rg_val rfl _ (ex_move _ rfl _ s8') (BR.refl _) ?_
              exact congrArg (fun v => [v]) (slotOf_same act 44 _ (by omega))
            | 3, ho, hD =>
              cases ho
              refine rg_val rfl _ (ex_move _ rfl _ s8') (BR.refl _) ?_
              exact congrArg (fun v => [v]) (slotOf_same act 45 _ (by omega))
            | 4, ho, hD =>
              cases ho
              have e1 := slot_tmps (List.cons.inj (hD 1 (by decide))).1
              have e2 := slot_tmps (List.cons.inj (hD 2 (by decide))).1
              have e3 := slot_tmps (List.cons.inj (hD 3 (by decide))).1
              have hsl := slice_all hlc (fun h => hI.at_ (fun e => h (by rw [e]; rfl))) w1
              refine rg_val rfl (.slice a l.length l.length) (by simp [go_sem, e1, e2, e3, hsl]) (BR.refl _) ?_
              exact congrArg (fun v => [v]) (slotOf_same act 46 _ (by omega))
            | 5, ho, hD =>
              cases ho
              refine rg_val rfl _ (ex_move _ rfl _ s10') (BR.refl _) ?_
              exact congrArg (fun v => [v]) (slotOf_same act 47 _ (by omega))
            | 6, ho, hD =>
              cases ho
              have e5 := slot_tmps (List.cons.inj (hD 5 (by decide))).1
              refine rg_wp rfl rfl ?_
              refine wp_of_run (v := .slice (some ⟨w1.heap.size, 0, none⟩) 1 1) (w' := w1.alloc (.cells #[i64 j] 3)) (by simp [go_sem, e5]) ?_
              exact ⟨_, rfl, (Below.refl _ _).alloc (Nat.le_refl _) _, _, congrArg (fun v => [v]) (slotOf_same act 48 _ (by omega)), heap_alloc_new _ _⟩
            | 7, ho, hD =>
              cases ho
              have e4 : act.eval (.tmp 46) = .slice a l.length l.length := (List.cons.inj (hD 4 (by decide))).1
              obtain ⟨g, d6, hg⟩ := hD 6 (by decide)
              have e6 : act.eval (.tmp 48) = .slice (some ⟨g, 0, none⟩) 1 1 := (List.cons.inj d6).1
              have hI2 := hI1.same (Same.of_below hR)
              obtain ⟨v', w2, hrun, hL, hb⟩ := append_new (W := w1) (x := (j : Int)) hI2.at_ hI2.cell (by omega) hg
              refine rg_wp rfl rfl ?_
              refine wp_of_run (v := v') (w' := w2) (ex_append _ _ _ rfl (by rw [e4, e6]; exact hrun)) ?_
              exact ⟨_, rfl, hb, _, congrArg (fun v => [v]) (slotOf_same act 49 _ (by omega)), hL⟩
            | 8, ho, hD =>
              cases ho
              refine rg_val rfl _ (ex_move _ rfl _ s1') (BR.refl _) ?_
              exact congrArg (fun v => [v]) (slotOf_same act 50 _ (by omega))
            | 9, ho, hD =>
              cases ho
              have e0 := slot_tmps (List.cons.inj (hD 0 (by decide))).1
              obtain ⟨v', d7, hL⟩ := hD 7 (by decide)
              have e7 := slot_tmps (List.cons.inj d7).1
              have e8 := slot_tmps (List.cons.inj (hD 8 (by decide))).1
              refine rg_call rfl 71 #[v', i64 many, .pointer (some ⟨xb, 0, none⟩), .pointer (some ⟨cb, 0, none⟩)] (by simp [go_sem, e0, e7, e8]) rfl ?_
              refine (ih (l ++ [(j : Int)]) v' w1 (by simp; omega) hmany hris' hCap2 hL).mono ?_
              rintro e w2 ⟨v2, rfl, hb, hch⟩
              rw [hqq.out] at hch
              exact ⟨_, rfl, hb, v2, congrArg (fun v => [v]) (by rw [hqq.out]; exact slotOf_same act 51 _ (by omega)), hch⟩
            | 10, ho, hD =>
              cases ho
              obtain ⟨v', d9, hL⟩ := hD 9 (by decide)
              have e9 : act.eval (.tmp 51) = _ := (List.cons.inj d9).1
              refine rg_val rfl _ (ex_move _ rfl _ e9) (BR.refl _) ?_
              exact ⟨v', congrArg (fun v => [v]) (slotOf_same act 41 _ (by omega)), hL⟩
            | 11, ho, hD =>
              cases ho
              obtain ⟨v', d9, hL⟩ := hD 10 (by decide)
              have e9 : act.eval (.tmp 41) = _ := (List.cons.inj d9).1
              refine rg_val rfl v' (ex_extract _ _ rfl _ _ e9 rfl) (BR.refl _) ?_
              exact ⟨v', congrArg (fun v => [v]) (slotOf_same act 52 _ (by omega)), hL⟩
            | 12, ho, hD =>
              cases ho
              obtain ⟨v', d9, hL⟩ := hD 10 (by decide)
              have e9 : act.eval (.tmp 41) = _ := (List.cons.inj d9).1
              refine rg_val rfl (.bool q.isSome) (ex_extract _ _ rfl _ _ e9 rfl) (BR.refl _) ?_
              exact congrArg (fun v => [v]) (slotOf_same act 53 _ (by omega))
            | 13, ho, hD =>
              cases ho
              obtain ⟨v', d9, hL⟩ := hD 11 (by decide)
              have e9 : act.eval (.tmp 52) = _ := (List.cons.inj d9).1
              refine rg_val rfl v' (ex_assign _ rfl _ e9) (BR.refl _) ?_
              exact ⟨v', congrArg (fun v => [v]) (slotOf_same act 11 _ (by omega)), hL⟩
            | 14, ho, hD =>
              cases ho
              have e9 : act.eval (.tmp 53) = .bool q.isSome := (List.cons.inj (hD 12 (by decide))).1
              refine rg_val rfl _ (ex_assign _ rfl _ e9) (BR.refl _) ?_
              exact congrArg (fun v => [v]) (slotOf_same act 12 _ (by omega))
            | _ + 15, ho, _ => cases ho
          · intro act w1 hR hF hA
            have f0 : slotOf act 0 = .slice a l.length c := hF.slot 0 (by kernel_rfl)
            have f1 : slotOf act 1 = i64 many := hF.slot 1 (by kernel_rfl)
            have f2 : slotOf act 2 = .pointer (some ⟨xb, 0, none⟩) := hF.slot 2 (by kernel_rfl)
            have f3 : slotOf act 3 = .pointer (some ⟨cb, 0, none⟩) := hF.slot 3 (by kernel_rfl)
            have f8 : slotOf act 8 = i64 l.length := hF.slot 8 (by kernel_rfl)
            have f10 : slotOf act 10 = i64 j := hF.slot 10 (by kernel_rfl)
            have f4 : slotOf act 4 = undef := hF.slot 4 (by kernel_rfl)
            have f5 : slotOf act 5 = undef := hF.slot 5 (by kernel_rfl)
            have f9 : slotOf act 9 = .int .i64 ((y : Int) + 1) := hF.slot 9 (by kernel_rfl)
            have f13 : slotOf act 13 = .slice a l.length c := hF.slot 13 (by kernel_rfl)
            have f14 : slotOf act 14 = .int .i64 l.length := hF.slot 14 (by kernel_rfl)
            have f15 : slotOf act 15 = .int .i64 l.length := hF.slot 15 (by kernel_rfl)
            have f16 : slotOf act 16 = i64 many := hF.slot 16 (by kernel_rfl)
            have f17 : slotOf act 17 = .bool false := hF.slot 17 (by kernel_rfl)
            have f18 : slotOf act 18 = undef := hF.slot 18 (by kernel_rfl)
            have f19 : slotOf act 19 = undef := hF.slot 19 (by kernel_rfl)
            have f20 : slotOf act 20 = undef := hF.slot 20 (by kernel_rfl)
            have f21 : slotOf act 21 = undef := hF.slot 21 (by kernel_rfl)
            have f22 : slotOf act 22 = undef := hF.slot 22 (by kernel_rfl)
            have f23 : slotOf act 23 = undef := hF.slot 23 (by kernel_rfl)
            have f24 : slotOf act 24 = undef := hF.slot 24 (by kernel_rfl)
            have f25 : slotOf act 25 = .int .i64 l.length := hF.slot 25 (by kernel_rfl)
            have f26 : slotOf act 26 = .bool true := hF.slot 26 (by kernel_rfl)
            have f27 : slotOf act 27 = .slice a l.length c := hF.slot 27 (by kernel_rfl)
            have f28 : slotOf act 28 = .int .i64 l.length := hF.slot 28 (by kernel_rfl)
            have f29 : slotOf act 29 = .int .i64 ((l.length : Int) - 1) := hF.slot 29 (by kernel_rfl)
            have f30 : slotOf act 30 = .pointer (some ⟨b, o + (l.length - 1), none⟩) := hF.slot 30 (by kernel_rfl)
            have f31 : slotOf act 31 = i64 y := hF.slot 31 (by kernel_rfl)
            have f32 : slotOf act 32 = .int .i64 ((y : Int) + 1) := hF.slot 32 (by kernel_rfl)
            have f33 : slotOf act 33 = .int .i64 ((y : Int) + 1) := hF.slot 33 (by kernel_rfl)
            obtain ⟨v', d13, hch⟩ := hA 13 (by decide)
            have f11 : slotOf act 11 = v' := (List.cons.inj d13).1
            have f12 : slotOf act 12 = .bool q.isSome := (List.cons.inj (hA 14 (by decide))).1
            rw [act_eta act 56 hF.size hF.defers]
            simp only [show List.range 56 = [0, 1, 2, 3, 4, 5, 6, 7, 8, 9, 10, 11, 12, 13, 14, 15, 16, 17, 18, 19, 20, 21, 22, 23, 24, 25, 26, 27, 28, 29, 30, 31, 32, 33, 34, 35, 36, 37, 38, 39, 40, 41, 42, 43, 44, 45, 46, 47, 48, 49, 50, 51, 52, 53, 54, 55] from rfl, List.map_cons, List.map_nil, f0, f1, f2, f3, f8, f10, f11, f12, f4, f5, f9, f13, f14, f15, f16, f17, f18, f19, f20, f21, f22, f23, f24, f25, f26, f27, f28, f29, f30, f31, f32, f33]
            clear hA hF d13 f0 f1 f2 f3 f8 f10 f11 f12 f4 f5 f9 f13 f14 f15 f16 f17 f18 f19 f20 f21 f22 f23 f24 f25 f26 f27 f28 f29 f30 f31 f32 f33 hxc hxl
            have hbw2 : Below w.heap.size w w1 := hbw.trans (Below.mono hR hbw.size)
            cases q with
            | none =>
              have hno2 : Hid (∀ i : Nat, (y + 1) ≤ i → i < j + 1 → chooseB B d (l ++ [(i : Int)]) = none) := fun i h1 h2 => by
                rcases Nat.lt_or_ge i j with h' | h'
                · exact hno.out i h1 h'
                · obtain rfl : i = j := by omega
                  exact hqq.out
              clear hno hqq
              go_wp2_with fail
              go_roundw
              case rel =>
                first
                  | exact ⟨j + 1, by omega, by omega, by go_num, hbw2, hno2⟩
                  | ((repeat apply Exists.intro); refine ⟨?_, rfl⟩; exact ⟨j + 1, by omega, by omega, by go_num, hbw2, hno2⟩)
              case measure => simp [intOf]; omega
            | some r =>
              have hfin : Hid (chooseB B (d + 1) l = some r) := by
                show _ = _
                rw [hchs.out, scan_some]
                exact ⟨j, by rw [hs0.out]; exact hj1, by rw [hs0.out]; omega, hqq.out, fun i h1 h2 => hno.out i (by rw [hs0.out] at h1; exact h1) h2⟩
              clear hno hqq
              go_wp2_with fail
              refine bodyPost_ret (results_tmp2 rfl _ _) rfl ?_
              refine ⟨v', by rw [hfin.out]; rfl, hbw2, ?_⟩
              rw [hfin.out]
              exact hch
        · have hfin : Hid (chooseB B (d + 1) l = none) := by
            show _ = _
            rw [hchs.out, scan_none]
            intro i h1 h2
            rw [hs0.out] at h1 h2
            exact hno.out i h1 (by omega)
          have hlt' : ¬ (j : Int) < (B.sounds.length : Int) := by omega
          go_wp2_with fail
          refine bodyPost_ret (results_tmp2 rfl _ _) rfl ?_
          refine ⟨.slice none 0 0, by rw [hfin.out]; rfl, hbw, fun r hr => by rw [hfin.out] at hr; cases hr⟩
end Go.Proofs.YtkbmpkdflgimmaaDoor
/- The contract of Wrong. -/
namespace Go.Proofs.YtkbmpkdflgimmaaDoor
open Go.RowKit Go.Shelf

def WrongPost (B : Book) (w : World) (e : Ending) (w' : World) : Prop := ∃ v, e = .returned (.tuple #[v, i64 (wrongR B).2]) ∧ Below w.heap.size w w' ∧ ListV w' v (wrongR B).1
theorem listV_nil (W : World) : ListV W (.slice none 0 0) [] := ⟨0, 0, none, 0, rfl, Nat.le_refl _, nilInts _ _⟩
set_option maxRecDepth 100000 in
set_option maxHeartbeats 4000000 in
theorem Wrong_any (nA : Nat) (B : Book) (tb tq : Nat) (ta : Option Addr) (tc : Nat) (sb sq : Nat) (sa : Option Addr) (sc : Nat) (w : World) (hn : nA ≤ w.heap.size) (hE : Env nA w B tb tq ta sb sq sa) :
    Calls Tryd.prog 26 #[bookVal B ta tc sa sc] w (WrongPost B w) := by
  have hb0 : Below w.heap.size w (w.alloc (.cells (bookCells B ta tc sa sc) 30)) := (Below.refl _ w).alloc (Nat.le_refl _) _
  have hE0 := hE.below hn hb0
  have hx0 : (w.alloc (.cells (bookCells B ta tc sa sc) 30)).heap[w.heap.size]? = some (.cells (bookCells B ta tc sa sc) 30 (0, 0)) := heap_alloc_new w _
  cases hv : B.valid
  · have hC : Hid (checkE B = 20) := Lib.hid (by simp [checkE, hv])
    have hR : Hid (wrongR B = ([], 20)) := Lib.hid (by simp [wrongR, hv])
    clear hv
    go_enter Tryd.func26, Tryd.ntmps26
    go_wp2_with (first | (refine ld30 rfl _ rfl _ _ rfl hx0 rfl ?_) | (go_at_call 43; refine (check_any B _ _ _ _ _ _ _ _ _ (hE0.tides.up (by simp; omega)) (hE0.sounds.up (by simp; omega))).mono ?_; rintro e w1 ⟨rfl, hb⟩; rw [hC.out]))
    refine bodyPost_ret (results_tmp2 rfl _ _) rfl ?_
    exact ⟨.slice none 0 0, by rw [hR.out]; rfl, hb0.trans (by rename_i hb; exact hb.mono (by simp)), by rw [hR.out]; exact listV_nil _⟩
  · have hV := VB.of_valid hv
    have hC : Hid (checkE B = 0) := Lib.hid (by simp [checkE, hv])
    have hR : Hid (wrongR B = (wrongL B, 0)) := Lib.hid (by simp [wrongR, hv])
    have hs6 := hV.s6
    clear hv
    go_enter Tryd.func26, Tryd.ntmps26
    go_wp2_with (first | (refine ld30 rfl _ rfl _ _ rfl hx0 rfl ?_) | (go_at_call 43; refine (check_any B _ _ _ _ _ _ _ _ _ (hE0.tides.up (by simp; omega)) (hE0.sounds.up (by simp; omega))).mono ?_; rintro e w1 ⟨rfl, hb⟩; rw [hC.out]; have hx1 := (hb.block _ (by simp)).trans hx0; have hxc := cells_of hx1; have hxl := (Array.getElem?_eq_some_iff.1 hx1).1; have hbA := hb0.trans (hb.mono (by simp)); have hE1 := hE.same ((Same.of_below hbA).mono hn); have hn1 : nA ≤ w1.heap.size := by (have := hbA.size; omega)))
    have hb2 : Below w1.heap.size w1 (w1.alloc (.cells #[.func (.func 71) #[] #[.pointer (some ⟨w.heap.size, 0, none⟩), .pointer (some ⟨w1.heap.size, 0, none⟩)]] 95)) := (Below.refl _ w1).alloc (Nat.le_refl _) _
    have hCap : Cap nA w.heap.size w1.heap.size B tb tq ta tc sb sq sa sc (w1.alloc (.cells #[.func (.func 71) #[] #[.pointer (some ⟨w.heap.size, 0, none⟩), .pointer (some ⟨w1.heap.size, 0, none⟩)]] 95)) := ⟨hE1.below hn1 hb2, by simp; omega, (hb2.block _ hxl).trans hx1, heap_alloc_new _ _⟩
    refine abs_world (fun W => Below w1.heap.size w1 W ∧ Cap nA w.heap.size w1.heap.size B tb tq ta tc sb sq sa sc W) ⟨hb2, hCap⟩ ?_
    clear hb2 hCap hxc hxl
    rintro W2 ⟨hb2, hCap⟩
    have hbB := hbA.trans (hb2.mono hbA.size)
    go_loopw [19] (fun i wr => ∃ k : Nat, k ≤ B.sounds.length + 1 ∧ i = .int .i64 k ∧ Below W2.heap.size W2 wr ∧ Hid (∀ j : Nat, j < k → chooseB B j [] = none)) (fun i _ => B.sounds.length + 1 - (intOf i).toNat)
    case atStart => exact ⟨0, Nat.zero_le _, rfl, Below.refl _ _, fun j hj => by omega⟩
    case round =>
      obtain ⟨k, hk, rfl, hbw, hno⟩ := hrel
      have hCap1 := hCap.below hbw
      have hcc := cells_of hCap1.c
      have hcl := (Array.getElem?_eq_some_iff.1 hCap1.c).1
      by_cases hlt : k < B.sounds.length + 1
      · have hlt' : (k : Int) < (B.sounds.length : Int) + 1 := by omega
        have hch := choose_any nA w.heap.size w1.heap.size B tb tq ta tc sb sq sa sc hV k k [] (.slice none 0 0) wr (by simp) (by omega) (rising_nil _) hCap1 (listV_nil _)
        obtain ⟨q, hqq⟩ : ∃ q, chooseB B k [] = q := ⟨_, rfl⟩
        rw [hqq] at hch
        cases q with
        | none =>
          have hno2 : Hid (∀ j : Nat, j < k + 1 → chooseB B j [] = none) := fun j hj => by
            rcases Nat.lt_or_ge j k with h' | h'
            · exact hno.out j h'
            · obtain rfl : j = k := by omega
              exact hqq
          clear hno hqq
          go_wp2_with (go_at_call 71; refine hch.mono ?_; rintro e w3 ⟨v, rfl, hb3, _⟩; have hbw3 := hbw.trans (hb3.mono hbw.size))
          go_roundw
          case rel => exact ⟨k + 1, by omega, by go_num, hbw3, hno2⟩
          case measure => simp [intOf]; omega
        | some r =>
          have hfin : Hid (wrongR B = (r, 0)) := by
            show _ = _
            rw [hR.out]
            have : scan (fun many => chooseB B many []) (B.sounds.length + 1) 0 = some r := scan_some.2 ⟨k, Nat.zero_le _, by omega, hqq, fun i _ h2 => hno.out i h2⟩
            simp [wrongL, this]
          clear hno hqq
          go_wp2_with (go_at_call 71; refine hch.mono ?_; rintro e w3 ⟨v, rfl, hb3, hv3⟩; have hbw3 := hbw.trans (hb3.mono hbw.size); obtain ⟨b, o, a, c, rfl, hlc, hI⟩ := hv3 r rfl; have hrl := hI.len; have hsl := slice_all hlc (fun h => hI.at_ (fun e => h (by rw [e]; rfl))) w3)
          refine bodyPost_ret (results_tmp2 rfl _ _) rfl ?_
          exact ⟨.slice a r.length r.length, by rw [hfin.out]; rfl, hbB.trans (hbw3.mono hbB.size), by rw [hfin.out]; exact ⟨b, o, a, _, rfl, Nat.le_refl _, hI⟩⟩
      · have hlt' : ¬ (k : Int) < (B.sounds.length : Int) + 1 := by omega
        have hfin : Hid (wrongR B = ([], 0)) := by
          show _ = _
          rw [hR.out]
          have : scan (fun many => chooseB B many []) (B.sounds.length + 1) 0 = none := scan_none.2 (fun i _ h2 => hno.out i (by omega))
          simp [wrongL, this]
        go_wp2_with fail
        refine bodyPost_ret (results_tmp2 rfl _ _) rfl ?_
        exact ⟨.slice none 0 0, by rw [hfin.out]; rfl, hbB.trans (hbw.mono hbB.size), by rw [hfin.out]; exact listV_nil _⟩
end Go.Proofs.YtkbmpkdflgimmaaDoor
/- Contracts of the references' small helpers: Inside, Range, Point, Contains, Covers, Mod, Alike. -/
namespace Go.Proofs.YtkbmpkdflgimmaaDoor
open Go.RowKit Go.Shelf

theorem inside_any (n lo hi : Int) (w : World) : Calls Tryd.prog 31 #[i64 n, i64 lo, i64 hi] w fun e w' => e = .returned (.bool (inB n lo hi)) ∧ w = w' := by
  by_cases h1 : lo ≤ n
  · go_enter Tryd.func31, Tryd.ntmps31
    go_wp2
    go_ret
    simp [inB, h1]
  · go_enter Tryd.func31, Tryd.ntmps31
    go_wp2
    go_ret
    simp [inB]
    omega
def RangePost (lo hi : Int) (w : World) (e : Ending) (w' : World) : Prop := e = .returned (.agg #[i64 lo, i64 hi]) ∧ Below w.heap.size w w'
theorem range_any (lo hi : Int) (w : World) : Calls Tryd.prog 48 #[i64 lo, i64 hi] w (RangePost lo hi w) := by
  go_enter Tryd.func48, Tryd.ntmps48
  go_wp2
  exact bodyPost_ret (v := .agg #[i64 lo, i64 hi]) (by simp [results, Tryd.f48, go_sem]) rfl ⟨rfl, (Below.refl _ _).alloc (Nat.le_refl _) _⟩
theorem point_any (n : Int) (w : World) : Calls Tryd.prog 37 #[i64 n] w (RangePost n n w) := by
  have hb0 : Below w.heap.size w (w.alloc (.cells #[i64 0, i64 0] 24)) := (Below.refl _ w).alloc (Nat.le_refl _) _
  have hz0 : (w.alloc (.cells #[i64 0, i64 0] 24)).heap[w.heap.size]? = some (.cells #[i64 0, i64 0] 24 (0, 0)) := heap_alloc_new w _
  go_enter Tryd.func37, Tryd.ntmps37
  go_wp2_with (go_at_call 48; refine (range_any n n _).mono ?_; rintro e w1 ⟨rfl, hb⟩; have hz1 := (hb.block _ (by simp)).trans hz0; have hc := cells_of hz1; have hf := frozen_of hz1; have hl := (Array.getElem?_eq_some_iff.1 hz1).1; have hb1 := hb0.trans (hb.mono (by simp)))
  have hset := set_two1 (set_two0 hz1 (i64 n)) (i64 n)
  have hcs := cells_of hset
  refine bodyPost_ret (v := .agg #[i64 n, i64 n]) (by simp [results, Tryd.f37, go_sem, hcs]) rfl ⟨rfl, ?_⟩
  exact (hb1.setCell (p := ⟨w.heap.size, 0, none⟩) (Nat.le_refl _) _).setCell (p := ⟨w.heap.size, 1, none⟩) (Nat.le_refl _) _
theorem contains24_any (lo hi n : Int) (w : World) : Calls Tryd.prog 30 #[.agg #[i64 lo, i64 hi], i64 n] w fun e w' => e = .returned (.bool (inB n lo hi)) ∧ Below w.heap.size w w' := by
  go_enter Tryd.func30, Tryd.ntmps30
  go_wp2_with (go_at_call 31; refine (inside_any _ _ _ _).mono ?_; rintro e w' ⟨rfl, rfl⟩)
  go_ret
  exact ⟨rfl, (Below.refl _ _).alloc (Nat.le_refl _) _⟩
def coversB (a b c d : Int) : Bool := decide (a ≤ c) && decide (d ≤ b)
theorem covers_any (a b c d : Int) (w : World) : Calls Tryd.prog 38 #[.agg #[i64 a, i64 b], .agg #[i64 c, i64 d]] w fun e w' => e = .returned (.bool (coversB a b c d)) ∧ Below w.heap.size w w' := by
  by_cases h1 : a ≤ c
  · go_enter Tryd.func38, Tryd.ntmps38
    go_wp2
    go_ret
    exact ⟨by simp [coversB, h1], ((Below.refl _ _).alloc (Nat.le_refl _) _).alloc (by simp) _⟩
  · go_enter Tryd.func38, Tryd.ntmps38
    go_wp2
    go_ret
    refine ⟨?_, ((Below.refl _ _).alloc (Nat.le_refl _) _).alloc (by simp) _⟩
    simp [coversB]
    omega
def modI (n m : Int) : Int := if m ≤ 0 then 0 else n % m
theorem modI_lt {n m : Int} (h : 0 < m) : 0 ≤ modI n m ∧ modI n m < m := by
  unfold modI
  rw [if_neg (by omega)]
  exact ⟨Int.emod_nonneg _ (by omega), Int.emod_lt_of_pos _ h⟩
theorem tmod_emod (n m : Int) (h : 0 < m) : (0 ≤ n.tmod m ∧ n.tmod m < m ∧ n % m = n.tmod m) ∨ (n.tmod m < 0 ∧ -m < n.tmod m ∧ n % m = n.tmod m + m) := by
  have h1 := Int.tmod_lt_of_pos n h
  have h2 := Int.lt_tmod_of_pos n h
  have h3 := Int.tmod_add_mul_tdiv n m
  rcases Int.lt_or_le (n.tmod m) 0 with hn | hn
  · right
    refine ⟨hn, h2, (Int.emod_eq_iff (by omega)).2 ⟨by omega, by omega, 1 - n.tdiv m, ?_⟩⟩
    rw [Int.mul_sub, Int.mul_one]
    omega
  · left
    refine ⟨hn, h1, (Int.emod_eq_iff (by omega)).2 ⟨by omega, by omega, - n.tdiv m, ?_⟩⟩
    rw [Int.mul_neg]
    omega
theorem mod_any (n m : Int) (hm : m ≤ 1000000) (w : World) : Calls Tryd.prog 24 #[i64 n, i64 m] w fun e w' => e = .returned (i64 (modI n m)) ∧ w = w' := by
  rcases Int.lt_or_le 0 m with h | h
  · have hq := tmod_emod n m h
    have hm0 : ¬ m ≤ 0 := by omega
    rcases hq with ⟨q1, q2, q3⟩ | ⟨q1, q2, q3⟩
    · have hmi : Hid (modI n m = n.tmod m) := Lib.hid (by unfold modI; rw [if_neg (by omega), q3])
      have hq1 : ¬ n.tmod m < 0 := by omega
      clear q3
      go_enter Tryd.func24, Tryd.ntmps24
      go_wp2
      go_ret
      exact ⟨by rw [hmi.out]; rfl, rfl⟩
    · have hmi : Hid (modI n m = n.tmod m + m) := Lib.hid (by unfold modI; rw [if_neg (by omega), q3])
      clear q3
      go_enter Tryd.func24, Tryd.ntmps24
      go_wp2
      go_ret
      exact ⟨by rw [hmi.out]; rfl, rfl⟩
  · have hmi : Hid (modI n m = 0) := Lib.hid (by unfold modI; rw [if_pos h])
    go_enter Tryd.func24, Tryd.ntmps24
    go_wp2
    go_ret
    exact ⟨by rw [hmi.out]; rfl, rfl⟩
theorem take_eq_succ {l k : List Int} (h : l.length = k.length) (i : Nat) (hi : i < l.length) (ht : l.take i = k.take i) (he : l[i] = k[i]'(by omega)) : l.take (i + 1) = k.take (i + 1) := by
  rw [List.take_succ_eq_append_getElem hi, List.take_succ_eq_append_getElem (by omega), ht, he]
def AlikePost (l k : List Int) (w : World) (e : Ending) (w' : World) : Prop := e = .returned (.bool (l == k)) ∧ Below w.heap.size w w'
set_option maxRecDepth 100000 in
set_option maxHeartbeats 1000000 in
theorem alike_any (n b o b' o' : Nat) (a a' : Option Addr) (c c' : Nat) (l k : List Int) (w : World) (hn : n ≤ w.heap.size) (hl : IntsAt n w b o a l) (hk : IntsAt n w b' o' a' k) :
    Calls Tryd.prog 50 #[.slice a l.length c, .slice a' k.length c'] w (AlikePost l k w) := by
  have h1 := hl.len
  have h2 := hk.len
  by_cases hlen : l.length = k.length
  · have hne : ((l.length : Int) != (k.length : Int)) = false := by simp [hlen]
    have hlen' := Lib.hid hlen
    have hle : l.length ≤ k.length := by omega
    clear hlen
    go_enter Tryd.func50, Tryd.ntmps50
    go_wp2_with fail
    go_loopw [5] (fun i wr => ∃ j : Nat, j ≤ l.length ∧ i = .int .i64 j ∧ Below w.heap.size w wr ∧ Hid (l.take j = k.take j)) (fun i _ => l.length - (intOf i).toNat)
    case atStart => exact ⟨0, Nat.zero_le _, rfl, Below.refl _ _, rfl⟩
    case round =>
      obtain ⟨j, hj, rfl, hbw, htk⟩ := hrel
      by_cases hlt : j < l.length
      · have hlk : j < k.length := by omega
        have hl1 := hl.same ((Same.of_below hbw).mono hn)
        have hk1 := hk.same ((Same.of_below hbw).mono hn)
        have hi1 : ∀ W, (Instr.indexAt 40 (.slice a l.length c) (.int .i64 (j : Int))).run Tryd.prog W = .ok (.pointer (some ⟨b, o + j, none⟩)) W := fun W => idx40 W (hl1.at_ (ne_nil_of_lt hlt)) hlt
        have hi2 : ∀ W, (Instr.indexAt 40 (.slice a' k.length c') (.int .i64 (j : Int))).run Tryd.prog W = .ok (.pointer (some ⟨b', o' + j, none⟩)) W := fun W => idx40 W (hk1.at_ (ne_nil_of_lt hlk)) hlk
        have hc1 := hl1.cell j hlt
        have hc2 := hk1.cell j hlk
        by_cases he : l[j] = k[j]
        · have he' : (l[j] != k[j]) = false := by simp [he]
          have hnext : Hid (l.take (j + 1) = k.take (j + 1)) := take_eq_succ hlen'.out j hlt htk.out he
          clear he
          go_wp2_with fail
          go_quiet (fail)
          go_wp2_with fail
          go_roundw
          case rel => exact ⟨j + 1, by omega, by go_num, ⟨hbw.os, hbw.tape, hbw.output, hbw.size, hbw.block⟩, hnext⟩
          case measure => simp [intOf]; omega
        · have he' : (l[j] != k[j]) = true := by simp [he]
          have hfin : Hid ((l == k) = false) := by
            show _ = _
            rw [beq_eq_false_iff_ne]
            intro e
            subst e
            exact he rfl
          clear he
          go_wp2_with fail
          go_quiet (fail)
          go_wp2_with fail
          go_ret
          exact ⟨by rw [hfin.out]; rfl, ⟨hbw.os, hbw.tape, hbw.output, hbw.size, hbw.block⟩⟩
      · have hfin : Hid ((l == k) = true) := by
          show _ = _
          rw [beq_iff_eq]
          have := htk.out
          rwa [List.take_of_length_le (by omega), List.take_of_length_le (by have := hlen'.out; omega)] at this
        have hlt' : ¬ (j : Int) < (l.length : Int) := by omega
        go_wp2_with fail
        go_ret
        exact ⟨by rw [hfin.out]; rfl, hbw⟩
  · have hne : ((l.length : Int) != (k.length : Int)) = true := by simp; omega
    have hfin : Hid ((l == k) = false) := by
      show _ = _
      rw [beq_eq_false_iff_ne]
      intro e
      exact hlen (by rw [e])
    clear hlen
    go_enter Tryd.func50, Tryd.ntmps50
    go_wp2_with fail
    go_ret
    exact ⟨by rw [hfin.out]; rfl, Below.refl _ _⟩
end Go.Proofs.YtkbmpkdflgimmaaDoor
/- Contracts of the chapter's books: book, own, sounded, torn. -/
namespace Go.Proofs.YtkbmpkdflgimmaaDoor
open Go.RowKit Go.Shelf

theorem span_set {W : World} {z : Nat} {cs : Array Value} {b o : Nat} {a : Option Addr} {l : List Span} (h : SpansAt W.heap.size W b o a l) (hbz : l ≠ [] → b ≠ z) : SpansAt (W.setRow z cs).heap.size (W.setRow z cs) b o a l := by
  have hst := SetAt.row W z cs
  have hsz := hst.size
  refine ⟨h.len, h.at_, fun hne => by rw [hsz]; exact h.lt hne, fun k hk => ?_, fun k hk => ?_⟩
  · exact (World.cell?_of_block (w := W) (hst.other b (hbz (ne_nil_of_lt hk)))).trans (h.lo k hk)
  · exact (World.cell?_of_block (w := W) (hst.other b (hbz (ne_nil_of_lt hk)))).trans (h.hi k hk)
def bookL (l : List Sound) : Book := { tides := [⟨10, 12⟩, ⟨14, 15⟩, ⟨18, 20⟩, ⟨16, 17⟩], s0 := ⟨2, 3, 10, 19⟩, s1 := ⟨4, 5, 12, 20⟩, el := 5, eh := 6, sink := 10, under := 1, sounds := l }
abbrev zero30 : Array Value := #[.slice none 0 0, i64 0, i64 0, i64 0, i64 0, i64 0, i64 0, i64 0, i64 0, i64 0, i64 0, i64 0, i64 0, .slice none 0 0]
theorem zero30_any (w : World) : Below w.heap.size w (w.alloc (.cells zero30 30)) ∧ (w.alloc (.cells zero30 30)).heap[w.heap.size]? = some (.cells zero30 30 (0, 0)) := ⟨(Below.refl _ w).alloc (Nat.le_refl _) _, heap_alloc_new w _⟩
/-- A book in memory: its value, its lists where they lie. -/
structure BookAt (W : World) (v : Value) (B : Book) (tb tq : Nat) (ta : Option Addr) (tc : Nat) (sb sq : Nat) (sa : Option Addr) (sc : Nat) : Prop where
  val : v = bookVal B ta tc sa sc
  tides : SpansAt W.heap.size W tb tq ta B.tides
  sounds : SoundsAt W.heap.size W sb sq sa B.sounds
def BookV (W : World) (v : Value) (B : Book) : Prop := ∃ tb tq ta tc sb sq sa sc, BookAt W v B tb tq ta tc sb sq sa sc
theorem BookV.below {W W' : World} {v : Value} {B : Book} (h : BookV W v B) (hb : Below W.heap.size W W') : BookV W' v B := by
  obtain ⟨tb, tq, ta, tc, sb, sq, sa, sc, h1, h2, h3⟩ := h
  exact ⟨tb, tq, ta, tc, sb, sq, sa, sc, h1, (h2.same (Same.of_below hb)).up hb.size, (h3.same (Same.of_below hb)).up hb.size⟩
def BkPost (l : List Sound) (sa : Option Addr) (sc : Nat) (w : World) (e : Ending) (w' : World) : Prop := ∃ tb ta tc, e = .returned (bookVal (bookL l) ta tc sa sc) ∧ Below w.heap.size w w' ∧ w.heap.size ≤ tb ∧ SpansAt w'.heap.size w' tb 0 ta (bookL l).tides
def BookPost (B : Book) (w : World) (e : Ending) (w' : World) : Prop := ∃ v, e = .returned v ∧ Below w.heap.size w w' ∧ BookV w' v B
set_option maxRecDepth 100000 in
set_option maxHeartbeats 2000000 in
theorem book_any (sb sq : Nat) (sa : Option Addr) (sc : Nat) (l : List Sound) (w : World) (hS : SoundsAt w.heap.size w sb sq sa l) :
    Calls Tryd.prog 52 #[.slice sa l.length sc] w (BkPost l sa sc w) := by
  obtain ⟨hb0, hz0⟩ := zero30_any w
  have hsl := hS.len
  go_enter Tryd.func52, Tryd.ntmps52
  go_wp2_with fail
  refine (range_any _ _ _).mono ?_
  rintro e w1 ⟨rfl, hb1⟩
  go_wp2_with fail
  refine (range_any _ _ _).mono ?_
  rintro e w2 ⟨rfl, hb2⟩
  go_wp2_with fail
  refine (range_any _ _ _).mono ?_
  rintro e w3 ⟨rfl, hb3⟩
  go_wp2_with fail
  refine (range_any _ _ _).mono ?_
  rintro e w4 ⟨rfl, hb4⟩
  go_wp2_with fail
  have ht4 : (w4.alloc (.cells #[i64 10, i64 12, i64 14, i64 15, i64 18, i64 20, i64 16, i64 17] 24)).heap[w4.heap.size]? = some (.cells #[i64 10, i64 12, i64 14, i64 15, i64 18, i64 20, i64 16, i64 17] 24 (0, 0)) := heap_alloc_new w4 _
  have hb4' : Below w4.heap.size w4 (w4.alloc (.cells #[i64 10, i64 12, i64 14, i64 15, i64 18, i64 20, i64 16, i64 17] 24)) := (Below.refl _ w4).alloc (Nat.le_refl _) _
  refine (range_any _ _ _).mono ?_
  rintro e w5 ⟨rfl, hb5⟩
  go_wp2_with fail
  refine (range_any _ _ _).mono ?_
  rintro e w6 ⟨rfl, hb6⟩
  go_wp2_with fail
  refine (range_any _ _ _).mono ?_
  rintro e w7 ⟨rfl, hb7⟩
  have hbA : Below w4.heap.size w4 w7 := ((hb4'.trans (hb5.mono hb4'.size)).trans (hb6.mono (Nat.le_trans hb4'.size hb5.size))).trans (hb7.mono (Nat.le_trans (Nat.le_trans hb4'.size hb5.size) hb6.size))
  have hbB : Below w.heap.size w w4 := (((hb0.trans (hb1.mono hb0.size)).trans (hb2.mono (Nat.le_trans hb0.size hb1.size))).trans (hb3.mono (Nat.le_trans (Nat.le_trans hb0.size hb1.size) hb2.size))).trans (hb4.mono (Nat.le_trans (Nat.le_trans (Nat.le_trans hb0.size hb1.size) hb2.size) hb3.size))
  have l0 := (Array.getElem?_eq_some_iff.1 hz0).1
  have hz1 := (hb1.block _ l0).trans hz0
  have hz2 := (hb2.block _ (Array.getElem?_eq_some_iff.1 hz1).1).trans hz1
  have hz3 := (hb3.block _ (Array.getElem?_eq_some_iff.1 hz2).1).trans hz2
  have hz4 := (hb4.block _ (Array.getElem?_eq_some_iff.1 hz3).1).trans hz3
  have l4 := (Array.getElem?_eq_some_iff.1 hz4).1
  have hz7 := (hbA.block _ l4).trans hz4
  have ht7 : w7.heap[w4.heap.size]? = some (.cells #[i64 10, i64 12, i64 14, i64 15, i64 18, i64 20, i64 16, i64 17] 24 (0, 0)) := by
    have t5 := (hb5.block _ (Array.getElem?_eq_some_iff.1 ht4).1).trans ht4
    have t6 := (hb6.block _ (Array.getElem?_eq_some_iff.1 t5).1).trans t5
    exact (hb7.block _ (Array.getElem?_eq_some_iff.1 t6).1).trans t6
  have hbF : Below w.heap.size w w7 := hbB.trans (hbA.mono hbB.size)
  clear hb0 hz0 hb1 hb2 hb3 hb4 hb4' ht4 hb5 hb6 hb7 hz1 hz2 hz3 hz4 l0
  go_wp2_with (refine st30 rfl _ _ rfl _ (bookCells (bookL l) (some ⟨w4.heap.size, 0, none⟩) 4 sa sc) zero30 rfl rfl hz7 rfl rfl (by simp [Value.oneCell']) ?_)
  have hset : (w7.setRow w.heap.size (bookCells (bookL l) (some ⟨w4.heap.size, 0, none⟩) 4 sa sc)).heap[w.heap.size]? = some (.cells (bookCells (bookL l) (some ⟨w4.heap.size, 0, none⟩) 4 sa sc) 30 (0, 0)) := setRow_heap _ _ _ _ _ _ hz7
  have hst := SetAt.row w7 w.heap.size (bookCells (bookL l) (some ⟨w4.heap.size, 0, none⟩) 4 sa sc)
  refine bodyPost_ret (results_cell_row rfl _ _ w.heap.size 30 _ (0, 0) _ rfl hset Tryd.underlying30 rfl (by rw [size30]; rfl)) rfl ?_
  have hbG := hst.below (Nat.le_refl _) hbF
  refine ⟨w4.heap.size, some ⟨w4.heap.size, 0, none⟩, 4, rfl, hbG, by omega, ?_⟩
  have ht8 : (w7.setRow w.heap.size (bookCells (bookL l) (some ⟨w4.heap.size, 0, none⟩) 4 sa sc)).heap[w4.heap.size]? = some (.cells #[i64 10, i64 12, i64 14, i64 15, i64 18, i64 20, i64 16, i64 17] 24 (0, 0)) := (hst.other _ (by omega)).trans ht7
  have hc8 := cells_of ht8
  refine ⟨show 4 * 16 ≤ 140737488351232 by decide, fun _ => rfl, fun _ => (Array.getElem?_eq_some_iff.1 ht8).1, fun k hk => ?_, fun k hk => ?_⟩
  · rw [hc8]
    match k, hk with
    | 0, _ => rfl
    | 1, _ => rfl
    | 2, _ => rfl
    | 3, _ => rfl
  · rw [hc8]
    match k, hk with
    | 0, _ => rfl
    | 1, _ => rfl
    | 2, _ => rfl
    | 3, _ => rfl
set_option maxRecDepth 100000 in
set_option maxHeartbeats 2000000 in
theorem own_any (w : World) : Calls Tryd.prog 51 #[] w (BookPost (bookL []) w) := by
  obtain ⟨hb0, hz0⟩ := zero30_any w
  go_enter Tryd.func51, Tryd.ntmps51
  go_wp2_with fail
  refine (book_any 0 0 none 0 [] _ ⟨by simp, fun h => absurd rfl h, fun h => absurd rfl h, fun k h => by simp at h, fun k h => by simp at h, fun k h => by simp at h⟩).mono ?_
  rintro e w1 ⟨tb, ta, tc, rfl, hb1, hlo, hT⟩
  have hz1 := (hb1.block _ (Array.getElem?_eq_some_iff.1 hz0).1).trans hz0
  have hbF : Below w.heap.size w w1 := hb0.trans (hb1.mono hb0.size)
  have hne : tb ≠ w.heap.size := Nat.ne_of_gt (show w.heap.size + 1 ≤ tb by simpa using hlo)
  clear hb0 hz0 hb1 hlo
  go_wp2_with (refine st30 rfl _ _ rfl _ (bookCells (bookL []) ta tc none 0) zero30 rfl rfl hz1 rfl rfl (by simp [Value.oneCell']) ?_)
  have hset : (w1.setRow w.heap.size (bookCells (bookL []) ta tc none 0)).heap[w.heap.size]? = some (.cells (bookCells (bookL []) ta tc none 0) 30 (0, 0)) := setRow_heap _ _ _ _ _ _ hz1
  refine bodyPost_ret (results_cell_row rfl _ _ w.heap.size 30 _ (0, 0) _ rfl hset Tryd.underlying30 rfl (by rw [size30]; rfl)) rfl ?_
  exact ⟨_, rfl, (SetAt.row w1 w.heap.size _).below (Nat.le_refl _) hbF, tb, 0, ta, tc, 0, 0, none, 0, rfl, span_set hT (fun _ => hne), ⟨by simp [bookL], fun h => absurd rfl h, fun h => absurd rfl h, fun k h => by simp [bookL] at h, fun k h => by simp [bookL] at h, fun k h => by simp [bookL] at h⟩⟩
theorem sound_set {W : World} {z : Nat} {cs : Array Value} {b o : Nat} {a : Option Addr} {l : List Sound} (h : SoundsAt W.heap.size W b o a l) (hbz : l ≠ [] → b ≠ z) : SoundsAt (W.setRow z cs).heap.size (W.setRow z cs) b o a l := by
  have hst := SetAt.row W z cs
  have hsz := hst.size
  refine ⟨h.len, h.at_, fun hne => by rw [hsz]; exact h.lt hne, fun k hk => ?_, fun k hk => ?_, fun k hk => ?_⟩
  · exact (World.cell?_of_block (w := W) (hst.other b (hbz (ne_nil_of_lt hk)))).trans (h.hour k hk)
  · exact (World.cell?_of_block (w := W) (hst.other b (hbz (ne_nil_of_lt hk)))).trans (h.shore k hk)
  · exact (World.cell?_of_block (w := W) (hst.other b (hbz (ne_nil_of_lt hk)))).trans (h.deep k hk)
theorem sounds1 {W : World} {b : Nat} {x : Sound} (h : W.heap[b]? = some (.cells #[i64 x.hour, i64 x.shore, i64 x.deep] 70 (0, 0))) : SoundsAt W.heap.size W b 0 (some ⟨b, 0, none⟩) [x] := by
  have hc := cells_of h
  refine ⟨by simp, fun _ => rfl, fun _ => (Array.getElem?_eq_some_iff.1 h).1, fun k hk => ?_, fun k hk => ?_, fun k hk => ?_⟩ <;> (rw [hc]; match k, hk with | 0, _ => rfl)
theorem sounds2 {W : World} {b : Nat} {x y : Sound} (h : W.heap[b]? = some (.cells #[i64 x.hour, i64 x.shore, i64 x.deep, i64 y.hour, i64 y.shore, i64 y.deep] 70 (0, 0))) : SoundsAt W.heap.size W b 0 (some ⟨b, 0, none⟩) [x, y] := by
  have hc := cells_of h
  refine ⟨by simp, fun _ => rfl, fun _ => (Array.getElem?_eq_some_iff.1 h).1, fun k hk => ?_, fun k hk => ?_, fun k hk => ?_⟩ <;> (rw [hc]; match k, hk with | 0, _ => rfl | 1, _ => rfl)
set_option maxRecDepth 100000 in
set_option maxHeartbeats 2000000 in
theorem sounded_any (w : World) : Calls Tryd.prog 54 #[] w (BookPost (bookL [⟨0, 0, 10⟩]) w) := by
  obtain ⟨hb0, hz0⟩ := zero30_any w
  go_enter Tryd.func54, Tryd.ntmps54
  go_wp2_with fail
  have hn1 := heap_alloc2_new w (.cells zero30 30) (.cells #[i64 0, i64 0, i64 10] 70)
  have hb0' : Below w.heap.size w ((w.alloc (.cells zero30 30)).alloc (.cells #[i64 0, i64 0, i64 10] 70)) := hb0.alloc (by simp) _
  have hz0' : ((w.alloc (.cells zero30 30)).alloc (.cells #[i64 0, i64 0, i64 10] 70)).heap[w.heap.size]? = some (.cells zero30 30 (0, 0)) := (Below.heap_alloc _ _ _ (by simp)).trans hz0
  have hS := sounds1 (x := ⟨0, 0, 10⟩) hn1
  refine (book_any (w.heap.size + 1) 0 (some ⟨w.heap.size + 1, 0, none⟩) 1 [⟨0, 0, 10⟩] _ hS).mono ?_
  rintro e w1 ⟨tb, ta, tc, rfl, hb1, hlo, hT⟩
  have hz1 := (hb1.block _ (Array.getElem?_eq_some_iff.1 hz0').1).trans hz0'
  have hbF : Below w.heap.size w w1 := hb0'.trans (hb1.mono hb0'.size)
  have hne : tb ≠ w.heap.size := Nat.ne_of_gt (Nat.lt_of_succ_lt (show w.heap.size + 1 + 1 ≤ tb by simpa using hlo))
  have hS1 := (hS.same (Same.of_below hb1)).up hb1.size
  clear hb0 hz0 hb1 hlo hn1 hb0' hz0' hS
  go_wp2_with (refine st30 rfl _ _ rfl _ (bookCells (bookL [⟨0, 0, 10⟩]) ta tc (some ⟨w.heap.size + 1, 0, none⟩) 1) zero30 rfl rfl hz1 rfl rfl (by simp [Value.oneCell']) ?_)
  have hset : (w1.setRow w.heap.size (bookCells (bookL [⟨0, 0, 10⟩]) ta tc (some ⟨w.heap.size + 1, 0, none⟩) 1)).heap[w.heap.size]? = some (.cells (bookCells (bookL [⟨0, 0, 10⟩]) ta tc (some ⟨w.heap.size + 1, 0, none⟩) 1) 30 (0, 0)) := setRow_heap _ _ _ _ _ _ hz1
  refine bodyPost_ret (results_cell_row rfl _ _ w.heap.size 30 _ (0, 0) _ rfl hset Tryd.underlying30 rfl (by rw [size30]; rfl)) rfl ?_
  exact ⟨_, rfl, (SetAt.row w1 w.heap.size _).below (Nat.le_refl _) hbF, tb, 0, ta, tc, _, 0, _, 1, rfl, span_set hT (fun _ => hne), sound_set hS1 (fun _ => by omega)⟩
set_option maxRecDepth 100000 in
set_option maxHeartbeats 2000000 in
theorem torn_any (w : World) : Calls Tryd.prog 53 #[] w (BookPost (bookL [⟨0, 0, 10⟩, ⟨0, 1, 6⟩]) w) := by
  obtain ⟨hb0, hz0⟩ := zero30_any w
  go_enter Tryd.func53, Tryd.ntmps53
  go_wp2_with fail
  have hn1 := heap_alloc2_new w (.cells zero30 30) (.cells #[i64 0, i64 0, i64 10, i64 0, i64 1, i64 6] 70)
  have hb0' : Below w.heap.size w ((w.alloc (.cells zero30 30)).alloc (.cells #[i64 0, i64 0, i64 10, i64 0, i64 1, i64 6] 70)) := hb0.alloc (by simp) _
  have hz0' : ((w.alloc (.cells zero30 30)).alloc (.cells #[i64 0, i64 0, i64 10, i64 0, i64 1, i64 6] 70)).heap[w.heap.size]? = some (.cells zero30 30 (0, 0)) := (Below.heap_alloc _ _ _ (by simp)).trans hz0
  have hS := sounds2 (x := ⟨0, 0, 10⟩) (y := ⟨0, 1, 6⟩) hn1
  refine (book_any (w.heap.size + 1) 0 (some ⟨w.heap.size + 1, 0, none⟩) 2 [⟨0, 0, 10⟩, ⟨0, 1, 6⟩] _ hS).mono ?_
  rintro e w1 ⟨tb, ta, tc, rfl, hb1, hlo, hT⟩
  have hz1 := (hb1.block _ (Array.getElem?_eq_some_iff.1 hz0').1).trans hz0'
  have hbF : Below w.heap.size w w1 := hb0'.trans (hb1.mono hb0'.size)
  have hne : tb ≠ w.heap.size := Nat.ne_of_gt (Nat.lt_of_succ_lt (show w.heap.size + 1 + 1 ≤ tb by simpa using hlo))
  have hS1 := (hS.same (Same.of_below hb1)).up hb1.size
  clear hb0 hz0 hb1 hlo hn1 hb0' hz0' hS
  go_wp2_with (refine st30 rfl _ _ rfl _ (bookCells (bookL [⟨0, 0, 10⟩, ⟨0, 1, 6⟩]) ta tc (some ⟨w.heap.size + 1, 0, none⟩) 2) zero30 rfl rfl hz1 rfl rfl (by simp [Value.oneCell']) ?_)
  have hset : (w1.setRow w.heap.size (bookCells (bookL [⟨0, 0, 10⟩, ⟨0, 1, 6⟩]) ta tc (some ⟨w.heap.size + 1, 0, none⟩) 2)).heap[w.heap.size]? = some (.cells (bookCells (bookL [⟨0, 0, 10⟩, ⟨0, 1, 6⟩]) ta tc (some ⟨w.heap.size + 1, 0, none⟩) 2) 30 (0, 0)) := setRow_heap _ _ _ _ _ _ hz1
  refine bodyPost_ret (results_cell_row rfl _ _ w.heap.size 30 _ (0, 0) _ rfl hset Tryd.underlying30 rfl (by rw [size30]; rfl)) rfl ?_
  exact ⟨_, rfl, (SetAt.row w1 w.heap.size _).below (Nat.le_refl _) hbF, tb, 0, ta, tc, _, 0, _, 2, rfl, span_set hT (fun _ => hne), sound_set hS1 (fun _ => by omega)⟩
end Go.Proofs.YtkbmpkdflgimmaaDoor
/- What the exported functions answer of the chapter's books. -/
namespace Go.Proofs.YtkbmpkdflgimmaaDoor
theorem moor1 : heightR (bookL [⟨0, 0, 10⟩]) 0 = (12, 12, 0) := by decide +kernel
theorem moor2 : landsR (bookL []) 0 1 20 = (2, 0) := by decide +kernel
theorem moor3 : mostR (bookL []) 1 1 = (20, 0) := by decide +kernel
theorem moor4 : firstR (bookL []) 0 50 = (3, 0) := by decide +kernel
theorem moor5 : bothR (bookL [⟨0, 0, 10⟩]) 0 = ([0, 1, 3], 0) := by decide +kernel
theorem moor6 : wrongR (bookL [⟨0, 0, 10⟩, ⟨0, 1, 6⟩]) = ([0], 0) := by decide +kernel
theorem moor7 : rightR (bookL []) = (true, 0) := by decide +kernel
theorem moor8 : floorR (bookL []) 0 = (2, 3, 0) := by decide +kernel
end Go.Proofs.YtkbmpkdflgimmaaDoor
/- The exported functions' contracts, over a book's value in memory. -/
namespace Go.Proofs.YtkbmpkdflgimmaaDoor
open Go.RowKit Go.Shelf

/-- The package's variables, all of them below the heap's end. -/
structure GA (W : World) : Prop where
  gl : GL W.heap.size W
  asks : Asks W.heap.size W
theorem GA.below {W W' : World} (h : GA W) (hb : Below W.heap.size W W') : GA W' := by
  have hs := hb.size
  refine ⟨(h.gl.same (Same.of_below hb)).up hs, ?_⟩
  have := h.asks.same (Same.of_below hb)
  exact ⟨Nat.le_trans this.n1 hs, this.a0, this.a1⟩
section
variable {W : World} {v : Value} {B : Book}
theorem check_v (hB : BookV W v B) : Calls Tryd.prog 43 #[v] W fun e w' => e = .returned (i64 (checkE B)) ∧ Below W.heap.size W w' := by
  obtain ⟨tb, tq, ta, tc, sb, sq, sa, sc, rfl, hT, hS⟩ := hB
  exact check_any B tb tq ta tc sb sq sa sc W hT hS
theorem right_v (hG : GA W) (hB : BookV W v B) : Calls Tryd.prog 25 #[v] W (RightPost B W) := by
  obtain ⟨tb, tq, ta, tc, sb, sq, sa, sc, rfl, hT, hS⟩ := hB
  exact Right_any W.heap.size B tb tq ta tc sb sq sa sc W (Nat.le_refl _) ⟨hG.gl, hT, hS⟩
theorem height_v (hG : GA W) (hB : BookV W v B) (hr : Int) : Calls Tryd.prog 27 #[v, i64 hr] W (HeightPost B hr W) := by
  obtain ⟨tb, tq, ta, tc, sb, sq, sa, sc, rfl, hT, hS⟩ := hB
  exact Height_any W.heap.size B tb tq ta tc sb sq sa sc hr W (Nat.le_refl _) ⟨hG.gl, hT, hS⟩
theorem floor_v (hG : GA W) (hB : BookV W v B) (s : Int) : Calls Tryd.prog 28 #[v, i64 s] W (FloorPost B s W) := by
  obtain ⟨tb, tq, ta, tc, sb, sq, sa, sc, rfl, hT, hS⟩ := hB
  exact Floor_any W.heap.size B tb tq ta tc sb sq sa sc s W (Nat.le_refl _) ⟨hG.gl, hT, hS⟩
theorem lands_v (hG : GA W) (hB : BookV W v B) (s hr ld : Int) : Calls Tryd.prog 29 #[v, i64 s, i64 hr, i64 ld] W (LandsRPost B s hr ld W) := by
  obtain ⟨tb, tq, ta, tc, sb, sq, sa, sc, rfl, hT, hS⟩ := hB
  exact LandsR_any W.heap.size B tb tq ta tc sb sq sa sc s hr ld W (Nat.le_refl _) ⟨hG.gl, hT, hS⟩ hG.asks
theorem most_v (hG : GA W) (hB : BookV W v B) (s hr : Int) : Calls Tryd.prog 33 #[v, i64 s, i64 hr] W (MostPost B s hr W) := by
  obtain ⟨tb, tq, ta, tc, sb, sq, sa, sc, rfl, hT, hS⟩ := hB
  exact Most_any W.heap.size B tb tq ta tc sb sq sa sc s hr W (Nat.le_refl _) ⟨hG.gl, hT, hS⟩
theorem first_v (hG : GA W) (hB : BookV W v B) (s ld : Int) : Calls Tryd.prog 34 #[v, i64 s, i64 ld] W (FirstPost B s ld W) := by
  obtain ⟨tb, tq, ta, tc, sb, sq, sa, sc, rfl, hT, hS⟩ := hB
  exact First_any W.heap.size B tb tq ta tc sb sq sa sc s ld W (Nat.le_refl _) ⟨hG.gl, hT, hS⟩
def BothVPost (B : Book) (ld : Int) (w : World) (e : Ending) (w' : World) : Prop := ∃ v, e = .returned (.tuple #[v, i64 (bothR B ld).2]) ∧ Below w.heap.size w w' ∧ ListV w' v (bothR B ld).1
theorem both_v (hG : GA W) (hB : BookV W v B) (ld : Int) : Calls Tryd.prog 35 #[v, i64 ld] W (BothVPost B ld W) := by
  obtain ⟨tb, tq, ta, tc, sb, sq, sa, sc, rfl, hT, hS⟩ := hB
  refine (Both_any W.heap.size B tb tq ta tc sb sq sa sc ld W (Nat.le_refl _) ⟨hG.gl, hT, hS⟩).mono ?_
  rintro e w' ⟨b, a, c, h1, h2, h3, h4⟩
  exact ⟨_, h1, h2, b, 0, a, c, rfl, h4, h3⟩
theorem wrong_v (hG : GA W) (hB : BookV W v B) : Calls Tryd.prog 26 #[v] W (WrongPost B W) := by
  obtain ⟨tb, tq, ta, tc, sb, sq, sa, sc, rfl, hT, hS⟩ := hB
  exact Wrong_any W.heap.size B tb tq ta tc sb sq sa sc W (Nat.le_refl _) ⟨hG.gl, hT, hS⟩
end
section
variable {P : Program} {l : List Oper} {Q : Exit → Act → World → Prop} {rd : Nat → List Nat} {pure : Nat → Bool} {G : Nat → List Value → World → Prop} {R : World → World → Prop} {i : Nat} {o : Oper} {a : Act} {w : World}
theorem rgw_wp (hw : Region.wanted o (yielded l.toArray a.tmps) = true) (hp : pure i = false) (h : o.wp P a w (fun a' w' => ∃ v, a' = a.put o.dst v ∧ R w w' ∧ G i (valsOf rd i a') w') Q) : RgStep P l Q rd pure G R i o a w := by
  unfold RgStep
  rw [if_pos hw]
  refine Oper.wp_mono ?_ h
  rintro a' w' ⟨v, h1, h2, h3⟩
  exact ⟨v, h1, h2, (fun h => by rw [hp] at h; cases h), h3⟩
end
theorem alike_v {W : World} {v v' : Value} {l k : List Int} (h1 : ListV W v l) (h2 : ListV W v' k) : Calls Tryd.prog 50 #[v, v'] W (AlikePost l k W) := by
  obtain ⟨b, o, a, c, rfl, _, h1⟩ := h1
  obtain ⟨b', o', a', c', rfl, _, h2⟩ := h2
  exact alike_any W.heap.size b o b' o' a a' c c' l k W (Nat.le_refl _) h1 h2
theorem ListV.one {W : World} {g : Nat} {x : Int} (h : W.heap[g]? = some (.cells #[i64 x] 3 (0, 0))) : ListV W (.slice (some ⟨g, 0, none⟩) 1 1) [x] := by
  have hc := cells_of h
  refine ⟨g, 0, _, 1, rfl, Nat.le_refl _, ⟨by simp, fun _ => rfl, fun _ => (Array.getElem?_eq_some_iff.1 h).1, fun k hk => ?_⟩⟩
  rw [hc]
  match k, hk with
  | 0, _ => rfl
theorem ListV.three {W : World} {g : Nat} {x y z : Int} (h : W.heap[g]? = some (.cells #[i64 x, i64 y, i64 z] 3 (0, 0))) : ListV W (.slice (some ⟨g, 0, none⟩) 3 3) [x, y, z] := by
  have hc := cells_of h
  refine ⟨g, 0, _, 3, rfl, Nat.le_refl _, ⟨by simp, fun _ => rfl, fun _ => (Array.getElem?_eq_some_iff.1 h).1, fun k hk => ?_⟩⟩
  rw [hc]
  match k, hk with
  | 0, _ => rfl
  | 1, _ => rfl
  | 2, _ => rfl
end Go.Proofs.YtkbmpkdflgimmaaDoor
