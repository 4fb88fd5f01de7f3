/- The helpers of LandingTrue, over values in memory. -/
import Derived.Test.YtkbmpkdflgimmaaDoorTrue2
import Derived.Test.YtkbmpkdflgimmaaDoorTrue4
namespace Go.Proofs.YtkbmpkdflgimmaaDoor
open Go.RowKit Go.Shelf

theorem truly_t {B : Book} {v lv : Value} {bits : List Int} {w : World} (hB : BookV w v B) (hL : ListV w lv bits) (hV : Vld B) :
    Calls Tryd.prog 22 #[v, lv] w fun e w' => ∃ hv hs fl0 fl1 em, e = .returned (.agg #[hv, i64 fl0, i64 fl1, i64 em]) ∧ Below w.heap.size w w' ∧ ListV w' hv hs ∧ Truth B hs (fl0, fl1) em := by
  refine (truly_v hB hL hV).mono ?_
  rintro e w' ⟨hv, h1, h2, h3⟩
  exact ⟨hv, _, _, _, _, h1, h2, h3, truth_of B bits hV⟩
theorem Truth.rg {B : Book} {hs : List Int} {f : Int × Int} {e : Int} (h : Truth B hs f e) (hV : Vld B) : ∀ j (h : j < hs.length), -1000 ≤ hs[j] ∧ hs[j] ≤ 1000 := by
  intro j hj
  have hj' : j < B.tides.length := by have := h.len; omega
  have h1 := h.hts j hj'
  have ht := hV.tides _ (List.getElem_mem hj')
  rw [← tideAt_nat hj'] at ht
  have : hs.getD j 0 = hs[j] := by rw [List.getD_eq_getElem?_getD, List.getElem?_eq_getElem hj]; rfl
  rw [this] at h1
  omega
theorem Truth.rf {B : Book} {hs : List Int} {fl0 fl1 : Int} {e : Int} (h : Truth B hs (fl0, fl1) e) (hV : Vld B) : (-1000 ≤ fl0 ∧ fl0 ≤ 1000) ∧ (-1000 ≤ fl1 ∧ fl1 ≤ 1000) ∧ (0 ≤ e ∧ e ≤ 100) := by
  have h0 := h.f0
  have h1 := h.f1
  have h2 := h.em
  have a1 := hV.sh0.fl
  have a2 := hV.sh0.fh
  have a3 := hV.sh1.fl
  have a4 := hV.sh1.fh
  have a5 := hV.e0
  have a6 := hV.e40
  simp only at h0 h1
  exact ⟨⟨by omega, by omega⟩, ⟨by omega, by omega⟩, by omega, by omega⟩
theorem rightly_v {B : Book} {v hv : Value} {hs : List Int} {fl0 fl1 e : Int} {w : World} (hB : BookV w v B) (hL : ListV w hv hs) (hV : Vld B) (hT : Truth B hs (fl0, fl1) e) :
    Calls Tryd.prog 23 #[v, .agg #[hv, i64 fl0, i64 fl1, i64 e]] w (BookPost (rightS B hs (fl0, fl1)) w) := by
  obtain ⟨tb, tq, ta, tc, sb, sq, sa, sc, rfl, hT', hS⟩ := hB
  obtain ⟨hb, hq, ha, hc, rfl, _, hI⟩ := hL
  obtain ⟨r0, r1, _⟩ := hT.rf hV
  exact rightly_any B tb tq ta tc sb sq sa sc hb hq ha hc hs fl0 fl1 e w hT' hS hI hV hT.len (hT.rg hV) r0 r1
theorem Vld.sane {B : Book} (hV : Vld B) : Sane B := by
  have h1 := hV.e40
  have h2 := hV.k20
  have h3 := hV.u10
  exact ⟨hV.e0, hV.ee, by omega, hV.k1, by omega, hV.u0, by omega⟩
theorem afloat_v {X : Book} {v hv : Value} {hs : List Int} {fl0 fl1 e s hr ld : Int} {w : World} (hB : BookV w v X) (hL : ListV w hv hs) (hX : Sane X) (r0 : -1000 ≤ fl0 ∧ fl0 ≤ 1000) (r1 : -1000 ≤ fl1 ∧ fl1 ≤ 1000) (re : 0 ≤ e ∧ e ≤ 100) (hs01 : s = 0 ∨ s = 1)
    (h0 : 0 ≤ hr) (h1 : hr < hs.length) (l0 : 0 ≤ ld) (l1 : ld ≤ 1000) :
    Calls Tryd.prog 32 #[v, .agg #[hv, i64 fl0, i64 fl1, i64 e], i64 s, i64 hr, i64 ld] w (SomePost (aflB X hs (fl0, fl1) e s hr ld) w) := by
  obtain ⟨tb, tq, ta, tc, sb, sq, sa, sc, rfl, hT', hS⟩ := hB
  obtain ⟨hb, hq, ha, hc, rfl, _, hI⟩ := hL
  obtain ⟨k, rfl⟩ : ∃ k : Nat, hr = k := ⟨hr.toNat, by omega⟩
  have hk : k < hs.length := by omega
  have hg : hs[k] = hs.getD k 0 := by rw [List.getD_eq_getElem?_getD, List.getElem?_eq_getElem hk]; rfl
  rcases hs01 with rfl | rfl
  · exact afloat0_any X ta tc sa sc hb hq ha hc hs fl0 fl1 e k ld w hI hk _ hg hX r0 re l0 l1
  · exact afloat1_any X ta tc sa sc hb hq ha hc hs fl0 fl1 e k ld w hI hk _ hg hX r1 re l0 l1
theorem box43 (w : World) (hv : Value) (a b c : Int) : Below w.heap.size w (w.alloc (.cells #[hv, i64 a, i64 b, i64 c] 43)) ∧ (w.alloc (.cells #[hv, i64 a, i64 b, i64 c] 43)).heap[w.heap.size]? = some (.cells #[hv, i64 a, i64 b, i64 c] 43 (0, 0)) :=
  ⟨(Below.refl _ w).alloc (Nat.le_refl _) _, heap_alloc_new w _⟩
section
variable {ops : Array Oper} {rest : List Oper} {o : Oper} {a : Act} {w : World} {Q : Exit → Act → World → Prop}
theorem ld30g (hw : Region.wanted o (yielded ops a.tmps) = true) (x : Operand) (ho : o.op = .load 30 x) (g : Nat) (cs : Array Value) (hx : a.eval x = .pointer (some ⟨g, 0, none⟩)) (hg : w.heap[g]? = some (.cells cs 30 (0, 0))) (hs : cs.size = 14)
    (h : wpList Tryd.prog ops Q rest (a.put o.dst (.agg cs)) w) : wpList Tryd.prog ops Q (o :: rest) a w := by
  unfold wpList
  rw [if_pos hw]
  left
  unfold Oper.wp
  rw [ex_load_row (a := a) 30 x ho g hx 30 cs (0, 0) _ hg Tryd.underlying30 rfl (by rw [size30, hs])]
  exact h
theorem ld43g (hw : Region.wanted o (yielded ops a.tmps) = true) (x : Operand) (ho : o.op = .load 43 x) (g : Nat) (cs : Array Value) (hx : a.eval x = .pointer (some ⟨g, 0, none⟩)) (hg : w.heap[g]? = some (.cells cs 43 (0, 0))) (hs : cs.size = 4)
    (h : wpList Tryd.prog ops Q rest (a.put o.dst (.agg cs)) w) : wpList Tryd.prog ops Q (o :: rest) a w := by
  unfold wpList
  rw [if_pos hw]
  left
  unfold Oper.wp
  rw [ex_load_row (a := a) 43 x ho g hx 43 cs (0, 0) _ hg Tryd.underlying43 rfl (by rw [size43, hs])]
  exact h
end
end Go.Proofs.YtkbmpkdflgimmaaDoor
