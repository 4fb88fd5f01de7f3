/- The contract of opened: the book in the calculation. -/
import Derived.Test.YtkbmpkdflgimmaaDoorLists
namespace Go.Proofs.YtkbmpkdflgimmaaDoor
open Go.RowKit Go.Shelf

/-- The package's variables: nowhere, unknown. -/
structure GL (n : Nat) (W : World) : Prop where
  n3 : 3 ≤ n
  now0 : W.cell? ⟨1, 0, none⟩ = some (i64 (-1))
  now1 : W.cell? ⟨1, 1, none⟩ = some (i64 (-1))
  unk0 : W.cell? ⟨2, 0, none⟩ = some (i64 (-41))
  unk1 : W.cell? ⟨2, 1, none⟩ = some (i64 (-41))
theorem GL.same {n : Nat} {W W' : World} (h : GL n W) (hb : Same n W W') : GL n W' := by
  have := h.n3
  exact ⟨h.n3, (hb.cell (p := ⟨1, 0, none⟩) (by show 1 < n; omega)).trans h.now0, (hb.cell (p := ⟨1, 1, none⟩) (by show 1 < n; omega)).trans h.now1, (hb.cell (p := ⟨2, 0, none⟩) (by show 2 < n; omega)).trans h.unk0, (hb.cell (p := ⟨2, 1, none⟩) (by show 2 < n; omega)).trans h.unk1⟩

/-- How deep it was at a place, by the first k soundings, without some. -/
def depK (l : List Sound) (but : List Int) (k : Nat) (h s : Int) : List Int :=
  (List.range k).filterMap fun i => match l[i]? with
    | some y => if y.hour == h && y.shore == s && !but.contains (i : Int) then some y.deep else none
    | none => none
def dep (l : List Sound) (but : List Int) : Int → Int → List Int := depK l but l.length
theorem depK_succ (l : List Sound) (but : List Int) (k : Nat) (h s : Int) (hk : k < l.length) :
    depK l but (k + 1) h s = depK l but k h s ++ (if l[k].hour == h && l[k].shore == s && !but.contains (k : Int) then [l[k].deep] else []) := by
  unfold depK
  rw [List.range_succ, List.filterMap_append]
  congr 1
  simp only [List.filterMap_cons, List.filterMap_nil, List.getElem?_eq_getElem hk]
  split <;> rename_i h1 <;> split at h1 <;> simp_all
theorem depK_len (l : List Sound) (but : List Int) (k : Nat) (h s : Int) : (depK l but k h s).length ≤ k := by
  unfold depK
  refine Nat.le_trans (List.length_filterMap_le _ _) ?_
  simp
/-- A valid book. -/
structure VB (B : Book) : Prop where
  h1 : 1 ≤ B.tides.length
  h24 : B.tides.length ≤ 24
  hour : ∀ k, k < B.tides.length → HourOk B k
  sane : Sane B
  sh0 : ShOk B.s0
  sh1 : ShOk B.s1
  s6 : B.sounds.length ≤ 6
  shour : ∀ y ∈ B.sounds, 0 ≤ y.hour
theorem eq_place (a b c d : Int) (w : World) : (Op.equalIn 10000 107 (.agg #[i64 a, i64 b]) (.agg #[i64 c, i64 d])).run Tryd.prog w = .ok (a == c && b == d) w := run_placeEqIn 9998 a b c d w
theorem abs_world {P : Program} {c : Code} {Q : Exit → Act → World → Prop} {a : Act} {w : World} (F : World → Prop) (hF : F w) (h : ∀ w', F w' → Code.wp P c Q a w') : Code.wp P c Q a w := h w hF
/-- A map of places that this call owns, with all rows, each in a block of its own. -/
structure MapOwn (base m : Nat) (W : World) (M : List PE) (D : Int → Int → List Int) : Prop where
  at_ : MapAt W m M
  lt : m < base
  row : ∀ h s, W.ownsRow base 3 1 (lookV h s M) (D h s).length ((D h s).map i64)
  apart : ∀ h s h' s' g, (lookV h s M).ownBlock = some g → (lookV h' s' M).ownBlock = some g → h = h' ∧ s = s'
theorem MapOwn.below {base m : Nat} {W W' : World} {M : List PE} {D} (h : MapOwn base m W M D) (hb : Below W.heap.size W W') : MapOwn base m W' M D :=
  ⟨(hb.block m (Array.getElem?_eq_some_iff.1 h.at_).1).trans h.at_, h.lt, fun a b => (h.row a b).kept (row := none) ⟨hb.os, hb.tape, hb.output, hb.size, fun i hi _ => hb.block i hi⟩ (by cases (lookV a b M).ownBlock <;> simp), h.apart⟩
theorem put_grown (W : World) (m : Nat) (o : Obj) : W.grownBy (W.putObj m o) (some m) := ⟨rfl, rfl, rfl, by simp, fun k _ hk => World.putObj_heap_other (fun e => hk (by rw [e]))⟩
theorem MapOwn.not_m {base m : Nat} {W : World} {M : List PE} {D} (h : MapOwn base m W M D) (a b : Int) : (lookV a b M).ownBlock ≠ some m := fun e => by
  have := ((h.row a b).lt m e).1
  have := h.lt
  omega
theorem MapOwn.enter {base m : Nat} {W : World} {M : List PE} {D} (h : MapOwn base m W M D) (a b : Int) :
    MapOwn base m (W.putObj m (.map (ents (entered a b M)).toArray (entered a b M).length)) (entered a b M) D := by
  refine ⟨h.at_.put, h.lt, fun x y => ?_, fun x y x' y' g => ?_⟩
  · rw [lookV_entered]
    exact (h.row x y).kept (put_grown W m _) (.inr (h.not_m x y))
  · rw [lookV_entered, lookV_entered]
    exact h.apart x y x' y' g
theorem MapOwn.store {base m : Nat} {W W' : World} {M : List PE} {D D' : Int → Int → List Int} {a b x : Int} {v : Value} (h : MapOwn base m W (entered a b M) D)
    (hv : W'.ownsRow base 3 1 v ((D a b).length + 1) ((D a b).map i64 ++ [i64 x])) (hg : W.grownBy W' (lookV a b M).ownBlock) (hl : v.ownBlock = (lookV a b M).ownBlock ∨ v.ownBlock = some W.heap.size)
    (hD : ∀ h' s', D' h' s' = if h' == a && s' == b then D a b ++ [x] else D h' s') :
    MapAt W' m (entered a b M) ∧ MapOwn base m (W'.putObj m (.map (ents (stored a b v M)).toArray (stored a b v M).length)) (stored a b v M) D' := by
  have hm : MapAt W' m (entered a b M) := (hg.block m (Array.getElem?_eq_some_iff.1 h.at_).1 (fun e => h.not_m a b (by rw [lookV_entered]; exact e.symm))).trans h.at_
  refine ⟨hm, hm.put, h.lt, fun h' s' => ?_, fun h1 s1 h2 s2 g => ?_⟩
  · rw [lookV_stored, hD]
    by_cases hc : (h' == a && s' == b) = true
    · rw [if_pos hc, if_pos hc, List.length_append, List.map_append]
      refine World.ownsRow.kept hv (put_grown W' m _) (.inr (fun e => ?_))
      have := (hv.lt m e).1
      have := h.lt
      omega
    · rw [if_neg hc, if_neg hc]
      have hr := h.row h' s'
      have hne := h.not_m h' s'
      have hap := h.apart h' s' a b
      rw [lookV_entered] at hr hne hap
      rw [lookV_entered] at hap
      refine World.ownsRow.kept (hr.kept hg ?_) (put_grown W' m _) (.inr hne)
      cases hb : (lookV h' s' M).ownBlock with
      | none => exact .inl rfl
      | some g =>
        refine .inr (fun e => hc ?_)
        obtain ⟨e1, e2⟩ := hap g hb e.symm
        simp [e1, e2]
  · rw [lookV_stored, lookV_stored]
    have old : ∀ h1 s1 g, (lookV h1 s1 M).ownBlock = some g → g < W.heap.size := fun h1 s1 g e => by
      have hr := h.row h1 s1
      rw [lookV_entered] at hr
      exact (hr.lt g e).2
    have ap : ∀ h1 s1 h2 s2 g, (lookV h1 s1 M).ownBlock = some g → (lookV h2 s2 M).ownBlock = some g → h1 = h2 ∧ s1 = s2 := fun h1 s1 h2 s2 g => by
      have := h.apart h1 s1 h2 s2 g
      rwa [lookV_entered, lookV_entered] at this
    by_cases hc1 : (h1 == a && s1 == b) = true <;> by_cases hc2 : (h2 == a && s2 == b) = true
    · simp at hc1 hc2
      intro _ _
      exact ⟨hc1.1.trans hc2.1.symm, hc1.2.trans hc2.2.symm⟩
    · rw [if_pos hc1, if_neg hc2]
      simp at hc1
      intro e1 e2
      rcases hl with hl | hl
      · rw [hc1.1, hc1.2]; exact ap a b h2 s2 g (hl.symm.trans e1) e2
      · have := old _ _ _ e2
        rw [hl] at e1
        simp at e1
        omega
    · rw [if_neg hc1, if_pos hc2]
      simp at hc2
      intro e1 e2
      rcases hl with hl | hl
      · rw [hc2.1, hc2.2]; exact ap h1 s1 a b g e1 (hl.symm.trans e2)
      · have := old _ _ _ e1
        rw [hl] at e2
        simp at e2
        omega
    · rw [if_neg hc1, if_neg hc2]
      exact ap h1 s1 h2 s2 g
abbrev zero93 : Array Value := #[.slice none 0 0, i64 0, i64 0, i64 0, i64 0, i64 0, i64 0, i64 0, i64 0, i64 0, i64 0, i64 0, i64 0, .slice none 0 0, .map none, .slice none 0 0]
/-- Between the rounds over the soundings. -/
structure OL (z : Nat) (B : Book) (ta : Option Addr) (tc : Nat) (sa : Option Addr) (sc : Nat) (D : Int → Int → List Int) (W0 W : World) : Prop where
  below : Below z W0 W
  x : W.heap[z]? = some (.cells (bookCells B ta tc sa sc) 30 (0, 0))
  r : W.heap[z + 1]? = some (.cells zero93 93 (0, 0))
  b : W.heap[z + 1 + 1 + 1]? = some (.cells (calcCells B ta tc sa sc (z + 1 + 1) (.slice none 0 0)) 93 (0, 0))
  map : ∃ M, MapOwn (z + 1 + 1 + 1 + 1) (z + 1 + 1) W M D
theorem OL.lt {z B ta tc sa sc D W0 W} (h : OL z B ta tc sa sc D W0 W) : z + 3 < W.heap.size := (Array.getElem?_eq_some_iff.1 h.b).1
theorem OL.more {z B ta tc sa sc D W0 W W'} (h : OL z B ta tc sa sc D W0 W) (hb : Below W.heap.size W W') : OL z B ta tc sa sc D W0 W' := by
  have := h.lt
  obtain ⟨M, hM⟩ := h.map
  exact ⟨h.below.trans (hb.mono (by omega)), (hb.block _ (by omega)).trans h.x, (hb.block _ (by omega)).trans h.r, (hb.block _ (by omega)).trans h.b, M, hM.below hb⟩
theorem run_makeMap90 (W : World) : (Instr.makeMap 90 none).run Tryd.prog W = .ok (.map (some W.heap.size)) (W.alloc (.map #[] 0)) := by kernel_rfl
theorem info3 : (Tryd.prog.info? 3).map (fun i => (i.zero, i.size, i.bytes)) = some (some (i64 0), 1, 8) := by kernel_rfl
theorem depK_zero (l : List Sound) (but : List Int) (h s : Int) : depK l but 0 h s = [] := rfl
theorem addr_add (g j : Nat) : (⟨g, 0, none⟩ : Addr).add j = ⟨g, j, none⟩ := by unfold Addr.add; split <;> simp_all
theorem ownsRow_of {w w' : World} {base : Nat} {e : TypeId} {size : Nat} {v : Value} {n : Nat} {xs : List Value} (h : w.ownsRow base e size v n xs) (hk : ∀ g, v.ownBlock = some g → w'.heap[g]? = w.heap[g]?) : w'.ownsRow base e size v n xs := by
  refine ⟨h.1, ?_⟩
  rcases h.2 with h2 | ⟨g, cap, cur, rfl, h3, h4, h5⟩
  · exact .inl h2
  · exact .inr ⟨g, cap, cur, rfl, h3, (hk g rfl).trans h4, h5⟩
theorem MapOwn.of_heap {base m : Nat} {W W' : World} {M : List PE} {D} (h : MapOwn base m W M D) (hm : W'.heap[m]? = W.heap[m]?) (hk : ∀ g, base ≤ g → g < W.heap.size → W'.heap[g]? = W.heap[g]?) : MapOwn base m W' M D :=
  ⟨hm.trans h.at_, h.lt, fun a b => ownsRow_of (h.row a b) (fun g e => hk g ((h.row a b).lt g e).1 ((h.row a b).lt g e).2), h.apart⟩
theorem ints_of_row {base : Nat} {W : World} {v : Value} {l : List Int} (h : W.ownsRow base 3 1 v l.length (l.map i64)) (hl : l.length ≤ 1000) : ∃ b o a c, v = .slice a l.length c ∧ IntsAt W.heap.size W b o a l ∧ (l ≠ [] → base ≤ b) := by
  rcases h.2 with ⟨rfl, h0⟩ | ⟨g, cap, cur, rfl, h3, h4, h5, h6, h7, h8⟩
  · have : l = [] := List.length_eq_zero_iff.1 h0
    subst this
    exact ⟨0, 0, none, 0, rfl, ⟨by simp, fun h => absurd rfl h, fun h => absurd rfl h, fun k h => by simp at h⟩, fun h => absurd rfl h⟩
  · refine ⟨g, 0, some ⟨g, 0, none⟩, cap, rfl, ⟨by omega, fun _ => rfl, fun _ => (Array.getElem?_eq_some_iff.1 h4).1, fun k hk => ?_⟩, fun _ => h3⟩
    have := h.cells (g := g) rfl k (i64 l[k]) (by simp [hk])
    rw [addr_add] at this
    simpa using this
theorem MapOwn.fix {base m bb : Nat} {W : World} {M : List PE} {D : Int → Int → List Int} (h : MapOwn base m W M D) (hb : bb < base) (hm : m ≠ bb) (hl : ∀ a b, (D a b).length ≤ 1000) : MapFix bb W.heap.size W m D := by
  refine ⟨⟨(Array.getElem?_eq_some_iff.1 h.at_).1, hm⟩, M, h.at_, fun a b => ?_⟩
  obtain ⟨x, o, p, c, e, hi, hx⟩ := ints_of_row (h.row a b) (hl a b)
  exact ⟨x, o, p, c, e, hi, fun hne => by have := hx hne; omega⟩
theorem flatC_get : ∀ (l : List (Int × Int)) (k : Nat) (h : k < l.length), (flatC l)[k * 2]? = some (i64 l[k].1) ∧ (flatC l)[k * 2 + 1]? = some (i64 l[k].2)
  | f :: l, 0, _ => by simp [flatC]
  | f :: l, k + 1, h => by
    have := flatC_get l k (by simpa using h)
    have e : flatC (f :: l) = i64 f.1 :: i64 f.2 :: flatC l := by simp [flatC]
    rw [e, show (k + 1) * 2 = k * 2 + 1 + 1 by omega]
    simpa using this
theorem cans_of_row {base : Nat} {W : World} {v : Value} {l : List (Int × Int)} (h : W.ownsRow base 99 2 v l.length (flatC l)) (hl : l.length ≤ 1000) : ∃ b a c, v = .slice a l.length c ∧ CansAt W.heap.size W b 0 a l ∧ (l ≠ [] → base ≤ b) := by
  rcases h.2 with ⟨rfl, h0⟩ | ⟨g, cap, cur, rfl, h3, h4, h5, h6, h7, h8⟩
  · have : l = [] := List.length_eq_zero_iff.1 h0
    subst this
    exact ⟨0, none, 0, rfl, ⟨by simp, fun h => absurd rfl h, fun h => absurd rfl h, fun k h => by simp at h, fun k h => by simp at h⟩, fun h => absurd rfl h⟩
  · refine ⟨g, some ⟨g, 0, none⟩, cap, rfl, ⟨by omega, fun _ => rfl, fun _ => (Array.getElem?_eq_some_iff.1 h4).1, fun k hk => ?_, fun k hk => ?_⟩, fun _ => h3⟩
    · have := h.cells (g := g) rfl (k * 2) _ (flatC_get l k hk).1
      rw [addr_add] at this
      simpa using this
    · have := h.cells (g := g) rfl (k * 2 + 1) _ (flatC_get l k hk).2
      rw [addr_add] at this
      simpa [Nat.add_assoc] using this
theorem abs_post {P : Program} {f : Func} {R : Ending → World → Prop} {e : Exit} {a : Act} {w : World} (F : World → Prop) (hF : F w) (h : ∀ w', F w' → bodyPost P f R e a w') : bodyPost P f R e a w := h w hF
theorem setCell_at {W : World} {b : Nat} {c : Array Value} {t : TypeId} {z : Nat × Nat} (h : W.heap[b]? = some (.cells c t z)) (j : Nat) (v : Value) : (W.setCell ⟨b, j, none⟩ v).heap[b]? = some (.cells (c.setIfInBounds j v) t z) := by simp [World.setCell, Array.getElem?_modify, h]
theorem set16 {W : World} {b : Nat} {t : TypeId} {c0 c1 c2 c3 c4 c5 c6 c7 c8 c9 c10 c11 c12 c13 c14 c15 : Value} (h : W.heap[b]? = some (.cells #[c0, c1, c2, c3, c4, c5, c6, c7, c8, c9, c10, c11, c12, c13, c14, c15] t (0, 0))) (v0 v1 v2 v3 v4 v5 v6 v7 v8 v9 v10 v11 v12 v13 v14 v15 : Value) :
    ((((((((((((((((W.setCell ⟨b, 0, none⟩ v0).setCell ⟨b, 1, none⟩ v1).setCell ⟨b, 2, none⟩ v2).setCell ⟨b, 3, none⟩ v3).setCell ⟨b, 4, none⟩ v4).setCell ⟨b, 5, none⟩ v5).setCell ⟨b, 6, none⟩ v6).setCell ⟨b, 7, none⟩ v7).setCell ⟨b, 8, none⟩ v8).setCell ⟨b, 9, none⟩ v9).setCell ⟨b, 10, none⟩ v10).setCell ⟨b, 11, none⟩ v11).setCell ⟨b, 12, none⟩ v12).setCell ⟨b, 13, none⟩ v13).setCell ⟨b, 14, none⟩ v14).setCell ⟨b, 15, none⟩ v15).heap[b]? = some (.cells #[v0, v1, v2, v3, v4, v5, v6, v7, v8, v9, v10, v11, v12, v13, v14, v15] t (0, 0)) := by
  have q0 : (W.setCell ⟨b, 0, none⟩ v0).heap[b]? = some (.cells #[v0, c1, c2, c3, c4, c5, c6, c7, c8, c9, c10, c11, c12, c13, c14, c15] t (0, 0)) := by simpa using setCell_at h 0 v0
  have q1 : ((W.setCell ⟨b, 0, none⟩ v0).setCell ⟨b, 1, none⟩ v1).heap[b]? = some (.cells #[v0, v1, c2, c3, c4, c5, c6, c7, c8, c9, c10, c11, c12, c13, c14, c15] t (0, 0)) := by simpa using setCell_at q0 1 v1
  have q2 : (((W.setCell ⟨b, 0, none⟩ v0).setCell ⟨b, 1, none⟩ v1).setCell ⟨b, 2, none⟩ v2).heap[b]? = some (.cells #[v0, v1, v2, c3, c4, c5, c6, c7, c8, c9, c10, c11, c12, c13, c14, c15] t (0, 0)) := by simpa using setCell_at q1 2 v2
  have q3 : ((((W.setCell ⟨b, 0, none⟩ v0).setCell ⟨b, 1, none⟩ v1).setCell ⟨b, 2, none⟩ v2).setCell ⟨b, 3, none⟩ v3).heap[b]? = some (.cells #[v0, v1, v2, v3, c4, c5, c6, c7, c8, c9, c10, c11, c12, c13, c14, c15] t (0, 0)) := by simpa using setCell_at q2 3 v3
  have q4 : (((((W.setCell ⟨b, 0, none⟩ v0).setCell ⟨b, 1, none⟩ v1).setCell ⟨b, 2, none⟩ v2).setCell ⟨b, 3, none⟩ v3).setCell ⟨b, 4, none⟩ v4).heap[b]? = some (.cells #[v0, v1, v2, v3, v4, c5, c6, c7, c8, c9, c10, c11, c12, c13, c14, c15] t (0, 0)) := by simpa using setCell_at q3 4 v4
  have q5 : ((((((W.setCell ⟨b, 0, none⟩ v0).setCell ⟨b, 1, none⟩ v1).setCell ⟨b, 2, none⟩ v2).setCell ⟨b, 3, none⟩ v3).setCell ⟨b, 4, none⟩ v4).setCell ⟨b, 5, none⟩ v5).heap[b]? = some (.cells #[v0, v1, v2, v3, v4, v5, c6, c7, c8, c9, c10, c11, c12, c13, c14, c15] t (0, 0)) := by simpa using setCell_at q4 5 v5
  have q6 : (((((((W.setCell ⟨b, 0, none⟩ v0).setCell ⟨b, 1, none⟩ v1).setCell ⟨b, 2, none⟩ v2).setCell ⟨b, 3, none⟩ v3).setCell ⟨b, 4, none⟩ v4).setCell ⟨b, 5, none⟩ v5).setCell ⟨b, 6, none⟩ v6).heap[b]? = some (.cells #[v0, v1, v2, v3, v4, v5, v6, c7, c8, c9, c10, c11, c12, c13, c14, c15] t (0, 0)) := by simpa using setCell_at q5 6 v6
  have q7 : ((((((((W.setCell ⟨b, 0, none⟩ v0).setCell ⟨b, 1, none⟩ v1).setCell ⟨b, 2, none⟩ v2).setCell ⟨b, 3, none⟩ v3).setCell ⟨b, 4, none⟩ v4).setCell ⟨b, 5, none⟩ v5).setCell ⟨b, 6, none⟩ v6).setCell ⟨b, 7, none⟩ v7).heap[b]? = some (.cells #[v0, v1, v2, v3, v4, v5, v6, v7, c8, c9, c10, c11, c12, c13, c14, c15] t (0, 0)) := by simpa using setCell_at q6 7 v7
  have q8 : (((((((((W.setCell ⟨b, 0, none⟩ v0).setCell ⟨b, 1, none⟩ v1).setCell ⟨b, 2, none⟩ v2).setCell ⟨b, 3, none⟩ v3).setCell ⟨b, 4, none⟩ v4).setCell ⟨b, 5, none⟩ v5).setCell ⟨b, 6, none⟩ v6).setCell ⟨b, 7, none⟩ v7).setCell ⟨b, 8, none⟩ v8).heap[b]? = some (.cells #[v0, v1, v2, v3, v4, v5, v6, v7, v8, c9, c10, c11, c12, c13, c14, c15] t (0, 0)) := by simpa using setCell_at q7 8 v8
  have q9 : ((((((((((W.setCell ⟨b, 0, none⟩ v0).setCell ⟨b, 1, none⟩ v1).setCell ⟨b, 2, none⟩ v2).setCell ⟨b, 3, none⟩ v3).setCell ⟨b, 4, none⟩ v4).setCell ⟨b, 5, none⟩ v5).setCell ⟨b, 6, none⟩ v6).setCell ⟨b, 7, none⟩ v7).setCell ⟨b, 8, none⟩ v8).setCell ⟨b, 9, none⟩ v9).heap[b]? = some (.cells #[v0, v1, v2, v3, v4, v5, v6, v7, v8, v9, c10, c11, c12, c13, c14, c15] t (0, 0)) := by simpa using setCell_at q8 9 v9
  have q10 : (((((((((((W.setCell ⟨b, 0, none⟩ v0).setCell ⟨b, 1, none⟩ v1).setCell ⟨b, 2, none⟩ v2).setCell ⟨b, 3, none⟩ v3).setCell ⟨b, 4, none⟩ v4).setCell ⟨b, 5, none⟩ v5).setCell ⟨b, 6, none⟩ v6).setCell ⟨b, 7, none⟩ v7).setCell ⟨b, 8, none⟩ v8).setCell ⟨b, 9, none⟩ v9).setCell ⟨b, 10, none⟩ v10).heap[b]? = some (.cells #[v0, v1, v2, v3, v4, v5, v6, v7, v8, v9, v10, c11, c12, c13, c14, c15] t (0, 0)) := by simpa using setCell_at q9 10 v10
  have q11 : ((((((((((((W.setCell ⟨b, 0, none⟩ v0).setCell ⟨b, 1, none⟩ v1).setCell ⟨b, 2, none⟩ v2).setCell ⟨b, 3, none⟩ v3).setCell ⟨b, 4, none⟩ v4).setCell ⟨b, 5, none⟩ v5).setCell ⟨b, 6, none⟩ v6).setCell ⟨b, 7, none⟩ v7).setCell ⟨b, 8, none⟩ v8).setCell ⟨b, 9, none⟩ v9).setCell ⟨b, 10, none⟩ v10).setCell ⟨b, 11, none⟩ v11).heap[b]? = some (.cells #[v0, v1, v2, v3, v4, v5, v6, v7, v8, v9, v10, v11, c12, c13, c14, c15] t (0, 0)) := by simpa using setCell_at q10 11 v11
  have q12 : (((((((((((((W.setCell ⟨b, 0, none⟩ v0).setCell ⟨b, 1, none⟩ v1).setCell ⟨b, 2, none⟩ v2).setCell ⟨b, 3, none⟩ v3).setCell ⟨b, 4, none⟩ v4).setCell ⟨b, 5, none⟩ v5).setCell ⟨b, 6, none⟩ v6).setCell ⟨b, 7, none⟩ v7).setCell ⟨b, 8, none⟩ v8).setCell ⟨b, 9, none⟩ v9).setCell ⟨b, 10, none⟩ v10).setCell ⟨b, 11, none⟩ v11).setCell ⟨b, 12, none⟩ v12).heap[b]? = some (.cells #[v0, v1, v2, v3, v4, v5, v6, v7, v8, v9, v10, v11, v12, c13, c14, c15] t (0, 0)) := by simpa using setCell_at q11 12 v12
  have q13 : ((((((((((((((W.setCell ⟨b, 0, none⟩ v0).setCell ⟨b, 1, none⟩ v1).setCell ⟨b, 2, none⟩ v2).setCell ⟨b, 3, none⟩ v3).setCell ⟨b, 4, none⟩ v4).setCell ⟨b, 5, none⟩ v5).setCell ⟨b, 6, none⟩ v6).setCell ⟨b, 7, none⟩ v7).setCell ⟨b, 8, none⟩ v8).setCell ⟨b, 9, none⟩ v9).setCell ⟨b, 10, none⟩ v10).setCell ⟨b, 11, none⟩ v11).setCell ⟨b, 12, none⟩ v12).setCell ⟨b, 13, none⟩ v13).heap[b]? = some (.cells #[v0, v1, v2, v3, v4, v5, v6, v7, v8, v9, v10, v11, v12, v13, c14, c15] t (0, 0)) := by simpa using setCell_at q12 13 v13
  have q14 : (((((((((((((((W.setCell ⟨b, 0, none⟩ v0).setCell ⟨b, 1, none⟩ v1).setCell ⟨b, 2, none⟩ v2).setCell ⟨b, 3, none⟩ v3).setCell ⟨b, 4, none⟩ v4).setCell ⟨b, 5, none⟩ v5).setCell ⟨b, 6, none⟩ v6).setCell ⟨b, 7, none⟩ v7).setCell ⟨b, 8, none⟩ v8).setCell ⟨b, 9, none⟩ v9).setCell ⟨b, 10, none⟩ v10).setCell ⟨b, 11, none⟩ v11).setCell ⟨b, 12, none⟩ v12).setCell ⟨b, 13, none⟩ v13).setCell ⟨b, 14, none⟩ v14).heap[b]? = some (.cells #[v0, v1, v2, v3, v4, v5, v6, v7, v8, v9, v10, v11, v12, v13, v14, c15] t (0, 0)) := by simpa using setCell_at q13 14 v14
  have q15 : ((((((((((((((((W.setCell ⟨b, 0, none⟩ v0).setCell ⟨b, 1, none⟩ v1).setCell ⟨b, 2, none⟩ v2).setCell ⟨b, 3, none⟩ v3).setCell ⟨b, 4, none⟩ v4).setCell ⟨b, 5, none⟩ v5).setCell ⟨b, 6, none⟩ v6).setCell ⟨b, 7, none⟩ v7).setCell ⟨b, 8, none⟩ v8).setCell ⟨b, 9, none⟩ v9).setCell ⟨b, 10, none⟩ v10).setCell ⟨b, 11, none⟩ v11).setCell ⟨b, 12, none⟩ v12).setCell ⟨b, 13, none⟩ v13).setCell ⟨b, 14, none⟩ v14).setCell ⟨b, 15, none⟩ v15).heap[b]? = some (.cells #[v0, v1, v2, v3, v4, v5, v6, v7, v8, v9, v10, v11, v12, v13, v14, v15] t (0, 0)) := by simpa using setCell_at q14 15 v15
  exact q15
theorem set1 {W0 W : World} {b : Nat} (h : W.os = W0.os ∧ W.tape = W0.tape ∧ W.output = W0.output ∧ W.heap.size = W0.heap.size ∧ (∀ k, k ≠ b → W.heap[k]? = W0.heap[k]?)) (j : Nat) (v : Value) :
    (W.setCell ⟨b, j, none⟩ v).os = W0.os ∧ (W.setCell ⟨b, j, none⟩ v).tape = W0.tape ∧ (W.setCell ⟨b, j, none⟩ v).output = W0.output ∧ (W.setCell ⟨b, j, none⟩ v).heap.size = W0.heap.size ∧ (∀ k, k ≠ b → (W.setCell ⟨b, j, none⟩ v).heap[k]? = W0.heap[k]?) :=
  ⟨h.1, h.2.1, h.2.2.1, by simpa [World.setCell] using h.2.2.2.1, fun k hk => (Below.heap_setCell _ _ _ k hk).trans (h.2.2.2.2 k hk)⟩
theorem keep16 {W : World} {b : Nat} (v0 v1 v2 v3 v4 v5 v6 v7 v8 v9 v10 v11 v12 v13 v14 v15 : Value) :
    ((((((((((((((((W.setCell ⟨b, 0, none⟩ v0).setCell ⟨b, 1, none⟩ v1).setCell ⟨b, 2, none⟩ v2).setCell ⟨b, 3, none⟩ v3).setCell ⟨b, 4, none⟩ v4).setCell ⟨b, 5, none⟩ v5).setCell ⟨b, 6, none⟩ v6).setCell ⟨b, 7, none⟩ v7).setCell ⟨b, 8, none⟩ v8).setCell ⟨b, 9, none⟩ v9).setCell ⟨b, 10, none⟩ v10).setCell ⟨b, 11, none⟩ v11).setCell ⟨b, 12, none⟩ v12).setCell ⟨b, 13, none⟩ v13).setCell ⟨b, 14, none⟩ v14).setCell ⟨b, 15, none⟩ v15).os = W.os ∧ ((((((((((((((((W.setCell ⟨b, 0, none⟩ v0).setCell ⟨b, 1, none⟩ v1).setCell ⟨b, 2, none⟩ v2).setCell ⟨b, 3, none⟩ v3).setCell ⟨b, 4, none⟩ v4).setCell ⟨b, 5, none⟩ v5).setCell ⟨b, 6, none⟩ v6).setCell ⟨b, 7, none⟩ v7).setCell ⟨b, 8, none⟩ v8).setCell ⟨b, 9, none⟩ v9).setCell ⟨b, 10, none⟩ v10).setCell ⟨b, 11, none⟩ v11).setCell ⟨b, 12, none⟩ v12).setCell ⟨b, 13, none⟩ v13).setCell ⟨b, 14, none⟩ v14).setCell ⟨b, 15, none⟩ v15).tape = W.tape ∧ ((((((((((((((((W.setCell ⟨b, 0, none⟩ v0).setCell ⟨b, 1, none⟩ v1).setCell ⟨b, 2, none⟩ v2).setCell ⟨b, 3, none⟩ v3).setCell ⟨b, 4, none⟩ v4).setCell ⟨b, 5, none⟩ v5).setCell ⟨b, 6, none⟩ v6).setCell ⟨b, 7, none⟩ v7).setCell ⟨b, 8, none⟩ v8).setCell ⟨b, 9, none⟩ v9).setCell ⟨b, 10, none⟩ v10).setCell ⟨b, 11, none⟩ v11).setCell ⟨b, 12, none⟩ v12).setCell ⟨b, 13, none⟩ v13).setCell ⟨b, 14, none⟩ v14).setCell ⟨b, 15, none⟩ v15).output = W.output ∧ ((((((((((((((((W.setCell ⟨b, 0, none⟩ v0).setCell ⟨b, 1, none⟩ v1).setCell ⟨b, 2, none⟩ v2).setCell ⟨b, 3, none⟩ v3).setCell ⟨b, 4, none⟩ v4).setCell ⟨b, 5, none⟩ v5).setCell ⟨b, 6, none⟩ v6).setCell ⟨b, 7, none⟩ v7).setCell ⟨b, 8, none⟩ v8).setCell ⟨b, 9, none⟩ v9).setCell ⟨b, 10, none⟩ v10).setCell ⟨b, 11, none⟩ v11).setCell ⟨b, 12, none⟩ v12).setCell ⟨b, 13, none⟩ v13).setCell ⟨b, 14, none⟩ v14).setCell ⟨b, 15, none⟩ v15).heap.size = W.heap.size ∧ (∀ k, k ≠ b → ((((((((((((((((W.setCell ⟨b, 0, none⟩ v0).setCell ⟨b, 1, none⟩ v1).setCell ⟨b, 2, none⟩ v2).setCell ⟨b, 3, none⟩ v3).setCell ⟨b, 4, none⟩ v4).setCell ⟨b, 5, none⟩ v5).setCell ⟨b, 6, none⟩ v6).setCell ⟨b, 7, none⟩ v7).setCell ⟨b, 8, none⟩ v8).setCell ⟨b, 9, none⟩ v9).setCell ⟨b, 10, none⟩ v10).setCell ⟨b, 11, none⟩ v11).setCell ⟨b, 12, none⟩ v12).setCell ⟨b, 13, none⟩ v13).setCell ⟨b, 14, none⟩ v14).setCell ⟨b, 15, none⟩ v15).heap[k]? = W.heap[k]?) := by
  have q := (set1 (set1 (set1 (set1 (set1 (set1 (set1 (set1 (set1 (set1 (set1 (set1 (set1 (set1 (set1 (set1 (W0 := W) (W := W) (b := b) ⟨rfl, rfl, rfl, rfl, fun _ _ => rfl⟩ 0 v0) 1 v1) 2 v2) 3 v3) 4 v4) 5 v5) 6 v6) 7 v7) 8 v8) 9 v9) 10 v10) 11 v11) 12 v12) 13 v13) 14 v14) 15 v15)
  exact q
theorem ownsRow_lo {w : World} {base base' : Nat} {e : TypeId} {size : Nat} {v : Value} {n : Nat} {xs : List Value} (h : w.ownsRow base e size v n xs) (hb : base' ≤ base) : w.ownsRow base' e size v n xs := by
  refine ⟨h.1, ?_⟩
  rcases h.2 with h2 | ⟨g, cap, cur, h1, h3, h4⟩
  · exact .inl h2
  · exact .inr ⟨g, cap, cur, h1, Nat.le_trans hb h3, h4⟩
theorem ownsRow_obj {w : World} {base : Nat} {e : TypeId} {size : Nat} {v : Value} {n : Nat} {xs : List Value} (h : w.ownsRow base e size v n xs) (g : Nat) (hg : v.ownBlock = some g) : ∃ cur, w.heap[g]? = some (.cells cur e (0, 0)) := by
  rcases h.2 with ⟨rfl, _⟩ | ⟨g', cap, cur, rfl, _, h4, _⟩
  · simp [Value.ownBlock] at hg
  · simp [Value.ownBlock] at hg
    subst hg
    exact ⟨cur, h4⟩
/-- A map of places, all of it at z or beyond, its lists in rows of their own type. -/
structure MapTy (z : Nat) (W : World) (m : Nat) (D : Int → Int → List Int) : Prop where
  lo : z ≤ m
  ex : ∃ M, MapAt W m M ∧ ∀ h s, W.ownsRow z 3 1 (lookV h s M) (D h s).length ((D h s).map i64)
theorem MapTy.keep {z : Nat} {W W' : World} {m : Nat} {D : Int → Int → List Int} (h : MapTy z W m D) (hk : ∀ k o, z ≤ k → W.heap[k]? = some o → ((∃ es c, o = .map es c) ∨ ∃ cur, o = .cells cur 3 (0, 0)) → W'.heap[k]? = some o) : MapTy z W' m D := by
  obtain ⟨h1, M, h2, h3⟩ := h
  refine ⟨h1, M, hk m _ h1 h2 (.inl ⟨_, _, rfl⟩), fun a b => ownsRow_of (h3 a b) (fun g hg => ?_)⟩
  obtain ⟨cur, hc⟩ := ownsRow_obj (h3 a b) g hg
  rw [hc, hk g _ ((h3 a b).lt g hg).1 hc (.inr ⟨cur, rfl⟩)]
theorem MapTy.below {z : Nat} {W W' : World} {m : Nat} {D : Int → Int → List Int} (h : MapTy z W m D) (hb : Below W.heap.size W W') : MapTy z W' m D :=
  h.keep fun k _ _ hk _ => (hb.block k (Array.getElem?_eq_some_iff.1 hk).1).trans hk
theorem MapTy.down {z z' : Nat} {W : World} {m : Nat} {D : Int → Int → List Int} (h : MapTy z W m D) (hz : z' ≤ z) : MapTy z' W m D := by
  obtain ⟨h1, M, h2, h3⟩ := h
  exact ⟨Nat.le_trans hz h1, M, h2, fun a b => ownsRow_lo (h3 a b) hz⟩
theorem MapTy.mapIn {z : Nat} {W : World} {m : Nat} {D : Int → Int → List Int} (h : MapTy z W m D) (hl : ∀ a b, (D a b).length ≤ 1000) : MapIn W.heap.size W m D := by
  obtain ⟨h1, M, h2, h3⟩ := h
  refine ⟨(Array.getElem?_eq_some_iff.1 h2).1, M, h2, fun a b => ?_⟩
  obtain ⟨x, o, p, c, e, hi, hx⟩ := ints_of_row (h3 a b) (hl a b)
  exact ⟨x, o, p, c, e, hi⟩
theorem MapOwn.ty {base m z : Nat} {W : World} {M : List PE} {D : Int → Int → List Int} (h : MapOwn base m W M D) (hm : z ≤ m) (hb : z ≤ base) : MapTy z W m D := ⟨hm, M, h.at_, fun a b => ownsRow_lo (h.row a b) hb⟩
/-- What opened hands back: the map and the list of bottoms, in memory of its own. -/
def OpenPost (B : Book) (ta : Option Addr) (tc : Nat) (sa : Option Addr) (sc : Nat) (but : List Int) (w : World) (e : Ending) (w' : World) : Prop :=
  ∃ m ca cc, e = .returned (calcVal B ta tc sa sc m (.slice ca (ext0 B (dep B.sounds but)).length cc)) ∧ Below w.heap.size w w' ∧ MapTy w.heap.size w' m (dep B.sounds but) ∧ w'.ownsRow w.heap.size 99 2 (.slice ca (ext0 B (dep B.sounds but)).length cc) (ext0 B (dep B.sounds but)).length (flatC (ext0 B (dep B.sounds but)))
set_option maxRecDepth 100000 in
set_option maxHeartbeats 2000000 in
theorem opened_any (nA : Nat) (B : Book) (tb tq : Nat) (ta : Option Addr) (tc : Nat) (sb sq : Nat) (sa : Option Addr) (sc : Nat) (ub uo : Nat) (ua : Option Addr) (uc : Nat) (but : List Int) (w : World)
    (hV : VB B) (hn : nA ≤ w.heap.size) (hG : GL nA w) (hT : SpansAt nA w tb tq ta B.tides) (hS : SoundsAt nA w sb sq sa B.sounds) (hU : IntsAt nA w ub uo ua but) :
    Calls Tryd.prog 70 #[bookVal B ta tc sa sc, .slice ua but.length uc] w (OpenPost B ta tc sa sc but w) := by
  have hlen := hS.len
  have hmk := run_makeMap90
  go_enter Tryd.func70, Tryd.ntmps70
  go_wp2_with fail
  clear hmk
  have hOL : OL w.heap.size B ta tc sa sc (depK B.sounds but 0) w ((((w.alloc (.cells (bookCells B ta tc sa sc) 30)).alloc (.cells zero93 93)).alloc (.map #[] 0)).alloc (.cells (calcCells B ta tc sa sc (w.heap.size + 1 + 1) (.slice none 0 0)) 93)) := by
    obtain ⟨p1, p2, p3, p4, p5, p6⟩ := alloc4 w (.cells (bookCells B ta tc sa sc) 30) (.cells zero93 93) (.map #[] 0) (.cells (calcCells B ta tc sa sc (w.heap.size + 1 + 1) (.slice none 0 0)) 93)
    exact ⟨p1, p3, p4, p6, [], p5, by omega, fun h s => World.ownsRow_nil _ _ _ _, fun h s h' s' g e => by simp [lookV, findP, Value.ownBlock] at e⟩
  go_loopw [16] (fun i wr => ∃ k : Nat, k ≤ B.sounds.length ∧ i = .int .i64 k ∧ OL w.heap.size B ta tc sa sc (depK B.sounds but k) w wr) (fun i _ => B.sounds.length - (intOf i).toNat)
  case atStart => exact ⟨0, Nat.zero_le _, rfl, hOL⟩
  case round =>
    clear hOL
    obtain ⟨k, hk, rfl, hO⟩ := hrel
    by_cases hlt : k < B.sounds.length
    · have hS1 := hS.same ((Same.of_below hO.below).mono hn)
      have hU1 := hU.same ((Same.of_below hO.below).mono hn)
      have hG1 := hG.same ((Same.of_below hO.below).mono hn)
      have hidx := idx28 (n := B.sounds.length) (c := sc) (k := k) wr (hS1.at_ (ne_nil_of_lt hlt)) hlt
      have hc0 := hS1.hour k hlt
      have hc1 := hS1.shore k hlt
      have hc2 := hS1.deep k hlt
      have hn0 := hG1.now0
      have hn1 := hG1.now1
      have hz := hO.lt
      have h1l : 1 < wr.heap.size := by have := hG.n3; omega
      have h0l : 0 < wr.heap.size := by omega
      have hsn := hV.shour _ (List.getElem_mem hlt)
      have heq : ∀ W : World, (Op.equalIn 10000 107 (.agg #[i64 B.sounds[k].hour, i64 B.sounds[k].shore]) (.agg #[i64 (-1), i64 (-1)])).run Tryd.prog W = .ok false W := fun W => by
        have h := eq_place B.sounds[k].hour B.sounds[k].shore (-1) (-1) W
        rwa [show (B.sounds[k].hour == -1 && B.sounds[k].shore == -1) = false by simp; omega] at h
      have hbw : Below wr.heap.size wr ((wr.alloc (.cells #[i64 B.sounds[k].hour, i64 B.sounds[k].shore, i64 B.sounds[k].deep] 70)).alloc (.cells #[i64 B.sounds[k].hour, i64 B.sounds[k].shore] 107)) := ((Below.refl _ wr).alloc (Nat.le_refl _) _).alloc (by simp) _
      cases hcb : but.contains (k : Int)
      · have hcb := Lib.hid hcb
        go_upto_region 7 with (go_at_call 94; refine (contains_any nA ub uo ua uc but _ _ (hU1.same ((Same.of_below hbw).mono (by omega)))).mono ?_; rintro e w' ⟨rfl, rfl⟩; rw [hcb.out])
        have h70 : ((wr.alloc (.cells #[i64 B.sounds[k].hour, i64 B.sounds[k].shore, i64 B.sounds[k].deep] 70)).alloc (.cells #[i64 B.sounds[k].hour, i64 B.sounds[k].shore] 107)).heap[wr.heap.size]? = some (.cells #[i64 B.sounds[k].hour, i64 B.sounds[k].shore, i64 B.sounds[k].deep] 70 (0, 0)) := (Below.heap_alloc _ _ _ (by simp)).trans (heap_alloc_new wr _)
        have h71 : ((wr.alloc (.cells #[i64 B.sounds[k].hour, i64 B.sounds[k].shore, i64 B.sounds[k].deep] 70)).alloc (.cells #[i64 B.sounds[k].hour, i64 B.sounds[k].shore] 107)).heap[wr.heap.size + 1]? = some (.cells #[i64 B.sounds[k].hour, i64 B.sounds[k].shore] 107 (0, 0)) := heap_alloc2_new wr _ _
        refine abs_world (fun W => Below wr.heap.size wr W ∧ W.heap[wr.heap.size]? = some (.cells #[i64 B.sounds[k].hour, i64 B.sounds[k].shore, i64 B.sounds[k].deep] 70 (0, 0)) ∧ W.heap[wr.heap.size + 1]? = some (.cells #[i64 B.sounds[k].hour, i64 B.sounds[k].shore] 107 (0, 0))) ⟨hbw, h70, h71⟩ ?_
        clear hbw h70 h71 hidx hc0 hc1 hc2 hn0 hn1 heq
        rintro W ⟨hb7, h7, h8⟩
        have hO7 := hO.more hb7
        have hD : ∀ h' s', depK B.sounds but (k + 1) h' s' = if h' == B.sounds[k].hour && s' == B.sounds[k].shore then depK B.sounds but k B.sounds[k].hour B.sounds[k].shore ++ [B.sounds[k].deep] else depK B.sounds but k h' s' := fun h' s' => by
          rw [depK_succ _ _ _ _ _ hlt, hcb.out]
          by_cases hc : (h' == B.sounds[k].hour && s' == B.sounds[k].shore) = true
          · have hc' := hc
            simp at hc'
            rw [if_pos hc, hc'.1, hc'.2]
            simp
          · rw [if_neg hc]
            have : (B.sounds[k].hour == h' && B.sounds[k].shore == s' && !false) = false := by
              cases hx : (B.sounds[k].hour == h' && B.sounds[k].shore == s' && !false)
              · rfl
              · simp at hx hc
                exact absurd hx.2.symm (hc hx.1.symm)
            rw [this]
            simp
        have hD := Lib.hid hD
        obtain ⟨M, hM⟩ := hO7.map
        have hM1 := hM.below ((Below.refl _ W).alloc (Nat.le_refl _) (.cells #[i64 B.sounds[k].deep] 3))
        have hme := run_mapEntry90 hM1.at_ B.sounds[k].hour B.sounds[k].shore
        have hM2 := hM1.enter B.sounds[k].hour B.sounds[k].shore
        have hrow := hM2.row B.sounds[k].hour B.sounds[k].shore
        rw [lookV_entered] at hrow
        have hnews : ∀ j u, [i64 B.sounds[k].deep][j]? = some u → ((W.alloc (.cells #[i64 B.sounds[k].deep] 3)).putObj (w.heap.size + 1 + 1) (.map (ents (entered B.sounds[k].hour B.sounds[k].shore M)).toArray (entered B.sounds[k].hour B.sounds[k].shore M).length)).cell? ((⟨W.heap.size, 0, none⟩ : Addr).add j) = some u := fun j u hj => by
          cases j with
          | succ j => simp at hj
          | zero =>
            refine (World.cell?_of_block (w := W.alloc (.cells #[i64 B.sounds[k].deep] 3)) (World.putObj_heap_other ?_)).trans (cell_one_new W _ 3 0 u hj)
            show W.heap.size ≠ w.heap.size + 1 + 1
            have := hO7.lt
            omega
        have hlenD := depK_len B.sounds but k B.sounds[k].hour B.sounds[k].shore
        have hs6 := hV.s6
        have hO7l := hO7.lt
        have hy7 := cells_of h7
        have hy8 := cells_of h8
        have hyb := cells_of hO7.b
        have l7 := (Array.getElem?_eq_some_iff.1 h7).1
        have l8 := (Array.getElem?_eq_some_iff.1 h8).1
        have lb := (Array.getElem?_eq_some_iff.1 hO7.b).1
        obtain ⟨i0, hi, hz0, hz1, hz2⟩ := info_parts info3
        go_wp2_with (at_builtin; (refine wpList_append_own_at _ rfl _ _ 40 rfl (w.heap.size + 1 + 1 + 1 + 1) 3 i0 (i64 0) 1 8 Tryd.underlying40 hi hz0 hz1 hz2 rfl (by decide) (lookV B.sounds[k].hour B.sounds[k].shore M) _ _ rfl hrow ⟨W.heap.size, 0, none⟩ 1 1 [i64 B.sounds[k].deep] rfl rfl hnews (by simp [Value.oneCell']) (by unfold maxLen; omega) (by omega) (by simp; omega) ?_); intro v' w1 hown' hgrow hnil hloc; go_loud (have hst := hM2.store hown' hgrow hloc hD.out); go_loud (have hes := run_entryStore90 B.sounds[k].hour B.sounds[k].shore hst.1 v'))
        have hkeep : ∀ i, i < w.heap.size + 1 + 1 + 1 + 1 → i ≠ w.heap.size + 1 + 1 → ∀ o, (w1.putObj (w.heap.size + 1 + 1) o).heap[i]? = W.heap[i]? := fun i h1 h2 o => by
          rw [World.putObj_heap_other (by omega), hgrow.block i (by simp; omega) (fun e => by have := (hrow.lt i e.symm).1; omega), World.putObj_heap_other (by omega), Below.heap_alloc _ _ _ (by omega)]
        have hO8 : OL w.heap.size B ta tc sa sc (depK B.sounds but (k + 1)) w (w1.putObj (w.heap.size + 1 + 1) (.map (ents (stored B.sounds[k].hour B.sounds[k].shore v' M)).toArray (stored B.sounds[k].hour B.sounds[k].shore v' M).length)) := by
          refine ⟨⟨hgrow.os.trans hO7.below.os, hgrow.tape.trans hO7.below.tape, hgrow.output.trans hO7.below.output, ?_, fun i hi => (hkeep i (by omega) (by omega) _).trans (hO7.below.block i hi)⟩, (hkeep _ (by omega) (by omega) _).trans hO7.x, (hkeep _ (by omega) (by omega) _).trans hO7.r, (hkeep _ (by omega) (by omega) _).trans hO7.b, _, hst.2⟩
          have h1 := hgrow.size
          have h2 := hO7.below.size
          simp at h1 ⊢
          omega
        go_roundw
        case rel => exact ⟨k + 1, by omega, by go_num, hO8⟩
        case measure => simp [intOf]; omega
      · have hcb := Lib.hid hcb
        have hO8 : OL w.heap.size B ta tc sa sc (depK B.sounds but (k + 1)) w ((wr.alloc (.cells #[i64 B.sounds[k].hour, i64 B.sounds[k].shore, i64 B.sounds[k].deep] 70)).alloc (.cells #[i64 B.sounds[k].hour, i64 B.sounds[k].shore] 107)) := by
          have : depK B.sounds but (k + 1) = depK B.sounds but k := by
            funext h s
            rw [depK_succ _ _ _ _ _ hlt, hcb.out]
            simp
          rw [this]
          exact hO.more hbw
        go_wp2_with (go_at_call 94; refine (contains_any nA ub uo ua uc but _ _ (hU1.same ((Same.of_below hbw).mono (by omega)))).mono ?_; rintro e w' ⟨rfl, rfl⟩; rw [hcb.out])
        go_roundw
        case rel => exact ⟨k + 1, by omega, by go_num, hO8⟩
        case measure => simp [intOf]; omega
    · have hke : k = B.sounds.length := by omega
      have hO9 : OL w.heap.size B ta tc sa sc (dep B.sounds but) w wr := by rw [hke] at hO; exact hO
      have hk' : ¬ (k : Int) < (B.sounds.length : Int) := by omega
      clear hke hO
      have hz := hO9.lt
      have hG1 := hG.same ((Same.of_below hO9.below).mono hn)
      have hn0 := hG1.unk0
      have hn1 := hG1.unk1
      have hul : 2 < wr.heap.size := by have := hG.n3; omega
      have hul1 : 1 < wr.heap.size := by omega
      have hne : wr.heap.size ≠ w.heap.size + 1 + 1 + 1 := by omega
      obtain ⟨M, hM⟩ := hO9.map
      have hbw : Below wr.heap.size wr (wr.alloc (.cells #[.func (.func 95) #[] #[.pointer (some ⟨w.heap.size, 0, none⟩), .pointer (some ⟨wr.heap.size, 0, none⟩), .pointer (some ⟨w.heap.size + 1 + 1 + 1, 0, none⟩)]] 120)) := (Below.refl _ wr).alloc (Nat.le_refl _) _
      have hOA := hO9.more hbw
      have hMA := hM.below hbw
      have hG2 := hG.same ((Same.of_below hOA.below).mono hn)
      have hdl : ∀ a b, (dep B.sounds but a b).length ≤ 1000 := fun a b => by have := depK_len B.sounds but B.sounds.length a b; have := hV.s6; unfold dep; omega
      have hP : Op0 nA (wr.alloc (.cells #[.func (.func 95) #[] #[.pointer (some ⟨w.heap.size, 0, none⟩), .pointer (some ⟨wr.heap.size, 0, none⟩), .pointer (some ⟨w.heap.size + 1 + 1 + 1, 0, none⟩)]] 120)).heap.size w.heap.size wr.heap.size (w.heap.size + 1 + 1 + 1) B tb tq ta tc sa sc (w.heap.size + 1 + 1) (dep B.sounds but)
          (wr.alloc (.cells #[.func (.func 95) #[] #[.pointer (some ⟨w.heap.size, 0, none⟩), .pointer (some ⟨wr.heap.size, 0, none⟩), .pointer (some ⟨w.heap.size + 1 + 1 + 1, 0, none⟩)]] 120)) :=
        ⟨hG.n3, by omega, by simp; omega, ⟨by simp; omega, by omega⟩, ⟨by simp, by omega⟩, Nat.le_refl _, hG2.unk0, hG2.unk1, hOA.x, heap_alloc_new wr _, hT.same ((Same.of_below hOA.below).mono hn), hMA.fix (by omega) (by omega) hdl⟩
      have hBB : BB (wr.alloc (.cells #[.func (.func 95) #[] #[.pointer (some ⟨w.heap.size, 0, none⟩), .pointer (some ⟨wr.heap.size, 0, none⟩), .pointer (some ⟨w.heap.size + 1 + 1 + 1, 0, none⟩)]] 120)).heap.size (w.heap.size + 1 + 1 + 1) B ta tc sa sc (w.heap.size + 1 + 1) [] (.slice none 0 0)
          (wr.alloc (.cells #[.func (.func 95) #[] #[.pointer (some ⟨w.heap.size, 0, none⟩), .pointer (some ⟨wr.heap.size, 0, none⟩), .pointer (some ⟨w.heap.size + 1 + 1 + 1, 0, none⟩)]] 120)) := ⟨hOA.b, World.ownsRow_nil _ _ _ _⟩
      have hel : (ext0 B (dep B.sounds but)).length ≤ 1000 := by
        have := preC0_len B (dep B.sounds but) (B.s0.fh - B.s0.fl + 1).toNat hV.sh1
        have := hV.sh0.near
        unfold ext0
        omega
      go_wp2_with (go_at_call 95; refine (from0 nA _ w.heap.size wr.heap.size (w.heap.size + 1 + 1 + 1) B tb tq ta tc sa sc (w.heap.size + 1 + 1) (dep B.sounds but) (-41) (-41) [] (.slice none 0 0) _ hP hBB hV.hour (by simp) hV.sh1 hV.sh0).mono ?_; rintro e w' ⟨rfl, cv, hB2, hS2⟩; rw [List.nil_append] at hB2; obtain ⟨cb, ca, cc, rfl, _, _⟩ := cans_of_row hB2.own hel; have hbc := cells_of hB2.box; have hbl := (Array.getElem?_eq_some_iff.1 hB2.box).1; have hr2 := (hS2.keep (w.heap.size + 1) (by simp; omega) (by omega) (by simp [Value.ownBlock])).trans hOA.r; have hrc := cells_of hr2; have hrf := frozen_of hr2; have hrl := (Array.getElem?_eq_some_iff.1 hr2).1)
      have hbf : Below w.heap.size w w' := by
        refine ⟨hS2.os.trans hOA.below.os, hS2.tape.trans hOA.below.tape, hS2.output.trans hOA.below.output, Nat.le_trans hOA.below.size hS2.size, fun i hi => ?_⟩
        exact (hS2.keep i (by simp; omega) (by omega) (by simp [Value.ownBlock])).trans (hOA.below.block i hi)
      have hM3 : MapOwn (w.heap.size + 1 + 1 + 1 + 1) (w.heap.size + 1 + 1) w' M (dep B.sounds but) :=
        hMA.of_heap (hS2.keep _ (by simp; omega) (by omega) (by simp [Value.ownBlock])) (fun g h1 h2 => hS2.keep g h2 (by omega) (by simp [Value.ownBlock]))
      refine abs_post (fun W => W.os = w'.os ∧ W.tape = w'.tape ∧ W.output = w'.output ∧ W.heap.size = w'.heap.size ∧ (∀ k, k ≠ w.heap.size + 1 → W.heap[k]? = w'.heap[k]?) ∧ W.heap[w.heap.size + 1]? = some (.cells (calcCells B ta tc sa sc (w.heap.size + 1 + 1) (.slice ca (ext0 B (dep B.sounds but)).length cc)) 93 (0, 0)))
        ?_ ?_
      · obtain ⟨r1, r2, r3, r4, r5⟩ := keep16 (W := w') (b := w.heap.size + 1) (.slice ta B.tides.length tc) (i64 B.s0.fl) (i64 B.s0.fh) (i64 B.s0.lo) (i64 B.s0.hi) (i64 B.s1.fl) (i64 B.s1.fh) (i64 B.s1.lo) (i64 B.s1.hi) (i64 B.el) (i64 B.eh) (i64 B.sink) (i64 B.under) (.slice sa B.sounds.length sc) (.map (some (w.heap.size + 1 + 1))) (.slice ca (ext0 B (dep B.sounds but)).length cc)
        have r6 := set16 hr2 (.slice ta B.tides.length tc) (i64 B.s0.fl) (i64 B.s0.fh) (i64 B.s0.lo) (i64 B.s0.hi) (i64 B.s1.fl) (i64 B.s1.fh) (i64 B.s1.lo) (i64 B.s1.hi) (i64 B.el) (i64 B.eh) (i64 B.sink) (i64 B.under) (.slice sa B.sounds.length sc) (.map (some (w.heap.size + 1 + 1))) (.slice ca (ext0 B (dep B.sounds but)).length cc)
        exact ⟨r1, r2, r3, r4, r5, r6⟩
      rintro W ⟨o1, o2, o3, o4, o5, o6⟩
      have hwc := cells_of o6
      have hwl := (Array.getElem?_eq_some_iff.1 o6).1
      have hM4 : MapOwn (w.heap.size + 1 + 1 + 1 + 1) (w.heap.size + 1 + 1) W M (dep B.sounds but) := hM3.of_heap (o5 _ (by omega)) (fun g h1 h2 => o5 g (by omega))
      refine bodyPost_ret (v := calcVal B ta tc sa sc (w.heap.size + 1 + 1) (.slice ca (ext0 B (dep B.sounds but)).length cc)) (by simp [results, Tryd.f70, go_sem, hwc]) rfl ?_
      refine ⟨_, ca, cc, rfl, ⟨o1.trans hbf.os, o2.trans hbf.tape, o3.trans hbf.output, by rw [o4]; exact hbf.size, fun i hi => (o5 i (by omega)).trans (hbf.block i hi)⟩, hM4.ty (by omega) (by omega), ?_⟩
      refine ownsRow_lo (ownsRow_of hB2.own (fun g hg => o5 g ?_)) (by simp; omega)
      have := (hB2.own.lt g hg).1
      simp at this
      omega
end Go.Proofs.YtkbmpkdflgimmaaDoor
