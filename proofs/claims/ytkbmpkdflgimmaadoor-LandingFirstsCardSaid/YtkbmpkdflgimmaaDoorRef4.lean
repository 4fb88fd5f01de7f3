/- The contract of the reference's heights. (Printed by genref4.py.) -/
import Derived.Test.YtkbmpkdflgimmaaDoorRef3
namespace Go.Proofs.YtkbmpkdflgimmaaDoor
open Go.RowKit Go.Shelf

theorem checkR_v {B : Book} {v : Value} {w : World} (hB : BookV w v B) : Calls Tryd.prog 58 #[v] w fun e w' => e = .returned (i64 (checkE B)) ∧ Below w.heap.size w w' := by
  obtain ⟨tb, tq, ta, tc, sb, sq, sa, sc, rfl, hT, hS⟩ := hB
  exact checkR_any B tb tq ta tc sb sq sa sc w hT hS
/-- The first soundings are right, with a height and bottoms. -/
def fitK (l : List Sound) (hr h f0 f1 : Int) (k : Nat) : Bool := (l.take k).all fun y => y.hour != hr || (h - fAt y.shore (f0, f1) == y.deep)
theorem fitK_succ (l : List Sound) (hr h f0 f1 : Int) (k : Nat) (hk : k < l.length) : fitK l hr h f0 f1 (k + 1) = (fitK l hr h f0 f1 k && (l[k].hour != hr || (h - fAt l[k].shore (f0, f1) == l[k].deep))) := all_take_succ _ l k hk
theorem fit_right {B : Book} (hV : Vld B) (hr h f0 f1 : Int) : fitK B.sounds hr h f0 f1 B.sounds.length = rightB (dep B.sounds []) hr h f0 f1 := by
  rw [Bool.eq_iff_iff, rightB_dep]
  unfold fitK
  rw [List.take_length, List.all_eq_true]
  constructor
  · intro H i y hy _ hh
    have := H y (List.mem_of_getElem? hy)
    simp only [Bool.or_eq_true, bne_iff_ne, beq_iff_eq] at this
    have h1 := this.resolve_left (fun h => h hh)
    exact ⟨fun e => by rw [e] at h1; exact h1, fun e => by rw [e] at h1; exact h1⟩
  · intro H y hy
    obtain ⟨i, hi⟩ := List.mem_iff_getElem?.1 hy
    simp only [Bool.or_eq_true, bne_iff_ne, beq_iff_eq]
    by_cases hh : y.hour = hr
    · right
      have h1 := H i y hi (by simp) hh
      have h2 := (hV.sounds y hy).2.1
      rcases (by omega : y.shore = 0 ∨ y.shore = 1) with e | e
      · rw [e]; exact h1.1 e
      · rw [e]; exact h1.2 e
    · exact .inl hh
theorem info3' : (Tryd.prog.info? 3).map (fun i => (i.zero, i.size, i.bytes)) = some (some (i64 0), 1, 8) := by kernel_rfl
def HeightsPost (B : Book) (hr f0 f1 : Int) (w : World) (e : Ending) (w' : World) : Prop := ∃ v, e = .returned v ∧ Below w.heap.size w w' ∧ ListV w' v (hts B hr (f0, f1))
/-- What the outer loop's rounds keep. -/
structure HtI (w : World) (B : Book) (ta : Option Addr) (tc : Nat) (sa : Option Addr) (sc : Nat) (f0 f1 : Int) (hr m : Nat) (v : Value) (a : Act) (W : World) : Prop where
  size : a.tmps.size = 65
  defers : a.defers = []
  s2 : slotOf a 2 = i64 hr
  s3 : slotOf a 3 = .pointer (some ⟨w.heap.size, 0, none⟩)
  s4 : slotOf a 4 = .pointer (some ⟨w.heap.size + 1, 0, none⟩)
  s7 : slotOf a 7 = v
  s8 : slotOf a 8 = i64 ((tideAt B hr).lo + m)
  hz : w.heap.size + 2 ≤ W.heap.size
  hb : Below w.heap.size w W
  hx : W.heap[w.heap.size]? = some (.cells (bookCells B ta tc sa sc) 30 (0, 0))
  hf : W.heap[w.heap.size + 1]? = some (.cells #[i64 f0, i64 f1] 117 (0, 0))
  own : W.ownsRow (w.heap.size + 2) 3 1 v (preL (tideAt B hr) (dep B.sounds []) hr f0 f1 m).length ((preL (tideAt B hr) (dep B.sounds []) hr f0 f1 m).map i64)
/-- What the inner loop's rounds keep. -/
structure HtJ (w : World) (B : Book) (f0 f1 : Int) (hr m k : Nat) (v : Value) (a : Act) (W9 W : World) : Prop where
  size : a.tmps.size = 65
  defers : a.defers = []
  s2 : slotOf a 2 = i64 hr
  s3 : slotOf a 3 = .pointer (some ⟨w.heap.size, 0, none⟩)
  s4 : slotOf a 4 = .pointer (some ⟨w.heap.size + 1, 0, none⟩)
  s7 : slotOf a 7 = v
  s8 : slotOf a 8 = i64 ((tideAt B hr).lo + m)
  s9 : slotOf a 9 = .bool (fitK B.sounds hr ((tideAt B hr).lo + m) f0 f1 k)
  s10 : slotOf a 10 = i64 k
  hb : Below W9.heap.size W9 W
def HtR (w : World) (B : Book) (ta : Option Addr) (tc : Nat) (sa : Option Addr) (sc : Nat) (f0 f1 : Int) (hr : Nat) (a : Act) (W : World) : Prop := ∃ (m : Nat) (v : Value), m ≤ ((tideAt B hr).hi - (tideAt B hr).lo + 1).toNat ∧ HtI w B ta tc sa sc f0 f1 hr m v a W
def htM (B : Book) (hr : Nat) (a : Act) : Nat := ((tideAt B hr).hi + 1 - intOf (slotOf a 8)).toNat
theorem preL_len (t : Span) (D : Int → Int → List Int) (hr f0 f1 : Int) (k : Nat) : (preL t D hr f0 f1 k).length ≤ k := by
  unfold preL
  refine Nat.le_trans (List.length_filter_le _ _) ?_
  simp
set_option maxRecDepth 100000 in
set_option maxHeartbeats 8000000 in
theorem heightsR_any (B : Book) (tb tq : Nat) (ta : Option Addr) (tc : Nat) (sb sq : Nat) (sa : Option Addr) (sc : Nat) (f0 f1 : Int) (hr : Nat) (w : World) (hT : SpansAt w.heap.size w tb tq ta B.tides) (hS : SoundsAt w.heap.size w sb sq sa B.sounds) (hV : Vld B) (hlt : hr < B.tides.length)
    (r0 : -1000 ≤ f0 ∧ f0 ≤ 1000) (r1 : -1000 ≤ f1 ∧ f1 ≤ 1000) :
    Calls Tryd.prog 89 #[bookVal B ta tc sa sc, .agg #[i64 f0, i64 f1], i64 hr] w (HeightsPost B hr f0 f1 w) := by
  have hb0 : Below w.heap.size w (((w.alloc (.cells (bookCells B ta tc sa sc) 30)).alloc (.cells #[i64 f0, i64 f1] 117)).alloc (.cells #[] 3)) := (((Below.refl _ w).alloc (Nat.le_refl _) _).alloc (by simp <;> omega) _).alloc (by simp <;> omega) _
  have hx0 : (((w.alloc (.cells (bookCells B ta tc sa sc) 30)).alloc (.cells #[i64 f0, i64 f1] 117)).alloc (.cells #[] 3)).heap[w.heap.size]? = some (.cells (bookCells B ta tc sa sc) 30 (0, 0)) := (Below.heap_alloc _ _ _ (by simp <;> omega)).trans ((Below.heap_alloc _ _ _ (by simp <;> omega)).trans (heap_alloc_new w _))
  have hf0 : (((w.alloc (.cells (bookCells B ta tc sa sc) 30)).alloc (.cells #[i64 f0, i64 f1] 117)).alloc (.cells #[] 3)).heap[w.heap.size + 1]? = some (.cells #[i64 f0, i64 f1] 117 (0, 0)) := (Below.heap_alloc _ _ _ (by simp <;> omega)).trans (heap_new_at _ _ _ (by simp))
  have hg0 : (((w.alloc (.cells (bookCells B ta tc sa sc) 30)).alloc (.cells #[i64 f0, i64 f1] 117)).alloc (.cells #[] 3)).heap[w.heap.size + 2]? = some (.cells #[] 3 (0, 0)) := heap_new_at _ _ _ (by simp)
  have hz0 : w.heap.size + 2 ≤ (((w.alloc (.cells (bookCells B ta tc sa sc) 30)).alloc (.cells #[i64 f0, i64 f1] 117)).alloc (.cells #[] 3)).heap.size := by simp
  have hxc0 : ∀ j, ((w.alloc (.cells (bookCells B ta tc sa sc) 30)).alloc (.cells #[i64 f0, i64 f1] 117)).cell? ⟨w.heap.size, j, none⟩ = ((bookCells B ta tc sa sc) : Array Value)[j]? := cells_of ((Below.heap_alloc _ _ _ (by simp <;> omega)).trans (heap_alloc_new w _))
  have htk := tideAt_nat hlt
  have hs6 := hV.s6
  have ht := hV.tides _ (List.getElem_mem hlt)
  rw [← htk] at ht
  have hT0 := hT.same (Same.of_below hb0)
  have hi22 : ∀ W, (Instr.indexAt 22 (.slice ta B.tides.length tc) (.int .i64 (hr : Int))).run Tryd.prog W = .ok (.pointer (some ⟨tb, tq + hr * 2, none⟩)) W := fun W => idx22 W (hT.at_ (ne_nil_of_lt hlt)) hlt
  have ct0 := hT0.lo hr hlt
  rw [← htk] at ct0
  have htH := Lib.hid htk
  have hown0 : (((w.alloc (.cells (bookCells B ta tc sa sc) 30)).alloc (.cells #[i64 f0, i64 f1] 117)).alloc (.cells #[] 3)).ownsRow (w.heap.size + 2) 3 1 (.slice (some ⟨w.heap.size + 2, 0, none⟩) 0 0) 0 [] := ⟨rfl, .inr ⟨_, 0, _, rfl, Nat.le_refl _, hg0, Nat.le_refl _, Nat.zero_le _, rfl, rfl⟩⟩
  have hxcA := cells_of hx0
  have hxlA := (Array.getElem?_eq_some_iff.1 hx0).1
  clear htk
  go_enter Tryd.func89, Tryd.ntmps89
  go_wp2_with fail
  obtain ⟨W0, hW0⟩ : ∃ W0, (((w.alloc (.cells (bookCells B ta tc sa sc) 30)).alloc (.cells #[i64 f0, i64 f1] 117)).alloc (.cells #[] 3)) = W0 := ⟨_, rfl⟩
  rw [hW0] at hb0 hx0 hf0 hz0 hown0 ⊢
  clear hW0 hg0 hxc0 hT0 ct0 hxcA hxlA
  refine wp_loop (HtR w B ta tc sa sc f0 f1 hr) (fun act _ => htM B hr act) ?_ ?_
  · exact ⟨0, .slice (some ⟨w.heap.size + 2, 0, none⟩) 0 0, Nat.zero_le _, rfl, rfl, rfl, rfl, rfl, rfl, congrArg (Value.int .i64) (show (tideAt B hr).lo = (tideAt B hr).lo + ((0 : Nat) : Int) by omega), hz0, hb0, hx0, hf0, hown0⟩
  · clear hb0 hx0 hf0 hz0 hown0
    rintro act W9 ⟨m, v, hm, hsz, hdf, s2, s3, s4, s7, s8, hz9, hb9, hx9, hf9, hown⟩
    rw [act_eta act 65 hsz hdf]
    simp only [show List.range 65 = [0, 1, 2, 3, 4, 5, 6, 7, 8, 9, 10, 11, 12, 13, 14, 15, 16, 17, 18, 19, 20, 21, 22, 23, 24, 25, 26, 27, 28, 29, 30, 31, 32, 33, 34, 35, 36, 37, 38, 39, 40, 41, 42, 43, 44, 45, 46, 47, 48, 49, 50, 51, 52, 53, 54, 55, 56, 57, 58, 59, 60, 61, 62, 63, 64] from rfl, List.map_cons, List.map_nil, s2, s3, s4, s7, s8]
    have hxc := cells_of hx9
    have hxl := (Array.getElem?_eq_some_iff.1 hx9).1
    have hT9 := hT.same (Same.of_below hb9)
    have ct1 := hT9.hi hr hlt
    rw [← htH.out] at ct1
    by_cases hmlt : m < ((tideAt B hr).hi - (tideAt B hr).lo + 1).toNat
    · have hle : (tideAt B hr).lo + (m : Int) ≤ (tideAt B hr).hi := by omega
      have hle' : decide ((tideAt B hr).lo + (m : Int) ≤ (tideAt B hr).hi) = true := decide_eq_true hle
      have hpl := preL_len (tideAt B hr) (dep B.sounds []) hr f0 f1 m
      have hps := preL_succ (tideAt B hr) (dep B.sounds []) hr f0 f1 m
      have hfr := fit_right hV hr ((tideAt B hr).lo + m) f0 f1
      go_wp2_with fail
      refine wp_loop (fun act W => ∃ k : Nat, k ≤ B.sounds.length ∧ HtJ w B f0 f1 hr m k v act W9 W) (fun act _ => B.sounds.length - (intOf (slotOf act 10)).toNat) ?_ ?_
      · exact ⟨0, Nat.zero_le _, rfl, rfl, rfl, rfl, rfl, rfl, rfl, rfl, rfl, Below.refl _ _⟩
      · clear hxc hxl ct1 hT9
        rintro act WB ⟨k, hk, hsz, hdf, s2, s3, s4, s7, s8, s9, s10, hbB⟩
        rw [act_eta act 65 hsz hdf]
        simp only [show List.range 65 = [0, 1, 2, 3, 4, 5, 6, 7, 8, 9, 10, 11, 12, 13, 14, 15, 16, 17, 18, 19, 20, 21, 22, 23, 24, 25, 26, 27, 28, 29, 30, 31, 32, 33, 34, 35, 36, 37, 38, 39, 40, 41, 42, 43, 44, 45, 46, 47, 48, 49, 50, 51, 52, 53, 54, 55, 56, 57, 58, 59, 60, 61, 62, 63, 64] from rfl, List.map_cons, List.map_nil, s2, s3, s4, s7, s8, s9, s10]
        have hxB := (hbB.block _ (Array.getElem?_eq_some_iff.1 hx9).1).trans hx9
        have hfB := (hbB.block _ (Array.getElem?_eq_some_iff.1 hf9).1).trans hf9
        have hxc := cells_of hxB
        have hxl := (Array.getElem?_eq_some_iff.1 hxB).1
        have hbk := hb9.trans (hbB.mono hb9.size)
        by_cases hkl : k < B.sounds.length
        · have hlk : (k : Int) < (B.sounds.length : Int) := by omega
          have hS1 := hS.same (Same.of_below hbk)
          have hidx := fun W => idx28 (n := B.sounds.length) (c := sc) (k := k) W (hS1.at_ (ne_nil_of_lt hkl)) hkl
          have c1 := hS1.hour k hkl
          have c2 := hS1.shore k hkl
          have c3 := hS1.deep k hkl
          obtain ⟨_, ⟨t3, t4⟩, _⟩ := hV.sounds _ (List.getElem_mem hkl)
          rcases (by omega : B.sounds[k].shore = 0 ∨ B.sounds[k].shore = 1) with hsh | hsh
          · skip
            rw [hsh] at c2
            have hfn : (decide True) = true := rfl
            have hwx : IntKind.i64.wrap ((tideAt B hr).lo + m - f0) = (tideAt B hr).lo + m - f0 := wrap_fit (by omega) (by omega)
            have hbn : Below WB.heap.size WB (WB.alloc (.cells #[i64 B.sounds[k].hour, i64 0, i64 B.sounds[k].deep] 70)) := (Below.refl _ WB).alloc (Nat.le_refl _) _
            have hbF := hbB.trans (hbn.mono hbB.size)
            have hfA := (Below.block hbn _ (Array.getElem?_eq_some_iff.1 hfB).1).trans hfB
            have hfc := cells_of hfA
            have hfl := (Array.getElem?_eq_some_iff.1 hfA).1
            have hsucc := Lib.hid (fitK_succ B.sounds hr ((tideAt B hr).lo + m) f0 f1 k hkl)
            have hfA0 : fAt B.sounds[k].shore (f0, f1) = f0 := by rw [hsh]; rfl
            have hfA1 := Lib.hid hfA0
            clear hsh hfA0 hfn
            cases hrt : fitK B.sounds hr ((tideAt B hr).lo + m) f0 f1 k
            · skip
              go_wp2_with fail
              go_quiet (fail)
              go_wp2_with fail
              refine ⟨⟨k + 1, by omega, rfl, rfl, rfl, rfl, rfl, rfl, rfl, congrArg Value.bool (by rw [hsucc.out, hrt]; rfl), congrArg (Value.int .i64) (Int.natCast_succ k).symm, ⟨hbF.os, hbF.tape, hbF.output, hbF.size, hbF.block⟩⟩, ?_⟩
              show B.sounds.length - ((k : Int) + 1).toNat < B.sounds.length - (k : Int).toNat
              omega
            · cases hc1 : (B.sounds[k].hour != (hr : Int))
              · cases hc2 : ((tideAt B hr).lo + m - f0 == B.sounds[k].deep)
                · skip
                  go_wp2_with fail
                  go_quiet (fail)
                  go_wp2_with fail
                  refine ⟨⟨k + 1, by omega, rfl, rfl, rfl, rfl, rfl, rfl, rfl, congrArg Value.bool (by rw [hsucc.out, hrt, hc1, hfA1.out, hc2]; rfl), congrArg (Value.int .i64) (Int.natCast_succ k).symm, ⟨hbF.os, hbF.tape, hbF.output, hbF.size, hbF.block⟩⟩, ?_⟩
                  show B.sounds.length - ((k : Int) + 1).toNat < B.sounds.length - (k : Int).toNat
                  omega
                · skip
                  go_wp2_with fail
                  go_quiet (fail)
                  go_wp2_with fail
                  refine ⟨⟨k + 1, by omega, rfl, rfl, rfl, rfl, rfl, rfl, rfl, congrArg Value.bool (by rw [hsucc.out, hrt, hc1, hfA1.out, hc2]; rfl), congrArg (Value.int .i64) (Int.natCast_succ k).symm, ⟨hbF.os, hbF.tape, hbF.output, hbF.size, hbF.block⟩⟩, ?_⟩
                  show B.sounds.length - ((k : Int) + 1).toNat < B.sounds.length - (k : Int).toNat
                  omega
              · skip
                go_wp2_with fail
                go_quiet (fail)
                go_wp2_with fail
                refine ⟨⟨k + 1, by omega, rfl, rfl, rfl, rfl, rfl, rfl, rfl, congrArg Value.bool (by rw [hsucc.out, hrt, hc1]; rfl), congrArg (Value.int .i64) (Int.natCast_succ k).symm, ⟨hbF.os, hbF.tape, hbF.output, hbF.size, hbF.block⟩⟩, ?_⟩
                show B.sounds.length - ((k : Int) + 1).toNat < B.sounds.length - (k : Int).toNat
                omega
          · skip
            rw [hsh] at c2
            have hfn : (decide True) = true := rfl
            have hwx : IntKind.i64.wrap ((tideAt B hr).lo + m - f1) = (tideAt B hr).lo + m - f1 := wrap_fit (by omega) (by omega)
            have hbn : Below WB.heap.size WB (WB.alloc (.cells #[i64 B.sounds[k].hour, i64 1, i64 B.sounds[k].deep] 70)) := (Below.refl _ WB).alloc (Nat.le_refl _) _
            have hbF := hbB.trans (hbn.mono hbB.size)
            have hfA := (Below.block hbn _ (Array.getElem?_eq_some_iff.1 hfB).1).trans hfB
            have hfc := cells_of hfA
            have hfl := (Array.getElem?_eq_some_iff.1 hfA).1
            have hsucc := Lib.hid (fitK_succ B.sounds hr ((tideAt B hr).lo + m) f0 f1 k hkl)
            have hfA0 : fAt B.sounds[k].shore (f0, f1) = f1 := by rw [hsh]; rfl
            have hfA1 := Lib.hid hfA0
            clear hsh hfA0 hfn
            cases hrt : fitK B.sounds hr ((tideAt B hr).lo + m) f0 f1 k
            · skip
              go_wp2_with fail
              go_quiet (fail)
              go_wp2_with fail
              refine ⟨⟨k + 1, by omega, rfl, rfl, rfl, rfl, rfl, rfl, rfl, congrArg Value.bool (by rw [hsucc.out, hrt]; rfl), congrArg (Value.int .i64) (Int.natCast_succ k).symm, ⟨hbF.os, hbF.tape, hbF.output, hbF.size, hbF.block⟩⟩, ?_⟩
              show B.sounds.length - ((k : Int) + 1).toNat < B.sounds.length - (k : Int).toNat
              omega
            · cases hc1 : (B.sounds[k].hour != (hr : Int))
              · cases hc2 : ((tideAt B hr).lo + m - f1 == B.sounds[k].deep)
                · skip
                  go_wp2_with fail
                  go_quiet (fail)
                  go_wp2_with fail
                  refine ⟨⟨k + 1, by omega, rfl, rfl, rfl, rfl, rfl, rfl, rfl, congrArg Value.bool (by rw [hsucc.out, hrt, hc1, hfA1.out, hc2]; rfl), congrArg (Value.int .i64) (Int.natCast_succ k).symm, ⟨hbF.os, hbF.tape, hbF.output, hbF.size, hbF.block⟩⟩, ?_⟩
                  show B.sounds.length - ((k : Int) + 1).toNat < B.sounds.length - (k : Int).toNat
                  omega
                · skip
                  go_wp2_with fail
                  go_quiet (fail)
                  go_wp2_with fail
                  refine ⟨⟨k + 1, by omega, rfl, rfl, rfl, rfl, rfl, rfl, rfl, congrArg Value.bool (by rw [hsucc.out, hrt, hc1, hfA1.out, hc2]; rfl), congrArg (Value.int .i64) (Int.natCast_succ k).symm, ⟨hbF.os, hbF.tape, hbF.output, hbF.size, hbF.block⟩⟩, ?_⟩
                  show B.sounds.length - ((k : Int) + 1).toNat < B.sounds.length - (k : Int).toNat
                  omega
              · skip
                go_wp2_with fail
                go_quiet (fail)
                go_wp2_with fail
                refine ⟨⟨k + 1, by omega, rfl, rfl, rfl, rfl, rfl, rfl, rfl, congrArg Value.bool (by rw [hsucc.out, hrt, hc1]; rfl), congrArg (Value.int .i64) (Int.natCast_succ k).symm, ⟨hbF.os, hbF.tape, hbF.output, hbF.size, hbF.block⟩⟩, ?_⟩
                show B.sounds.length - ((k : Int) + 1).toNat < B.sounds.length - (k : Int).toNat
                omega
        · have hlk : ¬ (k : Int) < (B.sounds.length : Int) := by omega
          obtain rfl : k = B.sounds.length := by omega
          have hownB := ownsRow_below hown hbB
          have hzB := Nat.le_trans hz9 hbB.size
          have hw8 : IntKind.i64.wrap ((tideAt B hr).lo + m + 1) = (tideAt B hr).lo + m + 1 := wrap_fit (by omega) (by omega)
          rw [hfr]
          cases hrb : rightB (dep B.sounds []) hr ((tideAt B hr).lo + m) f0 f1
          · have hps2 : Hid (preL (tideAt B hr) (dep B.sounds []) hr f0 f1 (m + 1) = preL (tideAt B hr) (dep B.sounds []) hr f0 f1 m) := Lib.hid (by rw [hps, hrb]; simp)
            clear hps hfr hrb
            go_wp2_with fail
            refine ⟨⟨m + 1, v, by omega, rfl, rfl, rfl, rfl, rfl, rfl, congrArg (Value.int .i64) (show (tideAt B hr).lo + (m : Int) + 1 = (tideAt B hr).lo + ((m + 1 : Nat) : Int) by omega), hzB, hbk, hxB, hfB, by rw [hps2.out]; exact hownB⟩, ?_⟩
            show ((tideAt B hr).hi + 1 - ((tideAt B hr).lo + (m : Int) + 1)).toNat < ((tideAt B hr).hi + 1 - ((tideAt B hr).lo + (m : Int))).toNat
            omega
          · have hps2 : Hid (preL (tideAt B hr) (dep B.sounds []) hr f0 f1 (m + 1) = preL (tideAt B hr) (dep B.sounds []) hr f0 f1 m ++ [(tideAt B hr).lo + m]) := Lib.hid (by rw [hps, hrb]; simp)
            clear hps hfr hrb
            obtain ⟨i0, hi, hi1, hi2, hi3⟩ := info_parts info3'
            have hbn : Below WB.heap.size WB (WB.alloc (.cells #[i64 ((tideAt B hr).lo + m)] 3)) := (Below.refl _ WB).alloc (Nat.le_refl _) _
            have hgn := heap_alloc_new WB (.cells #[i64 ((tideAt B hr).lo + m)] 3)
            have hgc := cells_of hgn
            have hownC := ownsRow_below hownB hbn
            have hzC := Nat.le_trans hzB hbn.size
            have hnews : ∀ j u, [i64 ((tideAt B hr).lo + m)][j]? = some u → (WB.alloc (.cells #[i64 ((tideAt B hr).lo + m)] 3)).cell? ((⟨WB.heap.size, 0, none⟩ : Addr).add j) = some u := fun j u hu => by
              rw [addr_add, hgc]
              simpa using hu
            have hbC := hbk.trans (hbn.mono hbk.size)
            have hxC := (hbn.block _ (Array.getElem?_eq_some_iff.1 hxB).1).trans hxB
            have hfC := (hbn.block _ (Array.getElem?_eq_some_iff.1 hfB).1).trans hfB
            have hcnt : (preL (tideAt B hr) (dep B.sounds []) hr f0 f1 m).length ≤ 5 := by omega
            go_wp2_with (at_builtin; refine wpList_append_own _ rfl _ _ 40 rfl (w.heap.size + 2) 3 i0 (i64 0) 1 8 Tryd.underlying40 hi hi1 hi2 hi3 rfl (by decide) v _ _ rfl hownC ⟨WB.heap.size, 0, none⟩ 1 1 [i64 ((tideAt B hr).lo + m)] rfl rfl hnews (by simp [Value.oneCell']) (by unfold maxLen; omega) (by omega) hzC ?_; intro v' w2 hown' hgrow _)
            have hnb : ∀ j, j < w.heap.size + 2 → some j ≠ v.ownBlock := fun j hj e => by have := (hownC.lt _ e.symm).1; omega
            refine ⟨⟨m + 1, v', by omega, rfl, rfl, rfl, rfl, rfl, rfl, congrArg (Value.int .i64) (show (tideAt B hr).lo + (m : Int) + 1 = (tideAt B hr).lo + ((m + 1 : Nat) : Int) by omega), Nat.le_trans hzC hgrow.size, hbC.grown hgrow (by omega) (fun j e => by have := (hownC.lt _ e).1; omega), (hgrow.block _ (by omega) (hnb _ (by omega))).trans hxC, (hgrow.block _ (by omega) (hnb _ (by omega))).trans hfC, by rw [hps2.out, List.length_append, List.map_append]; exact hown'⟩, ?_⟩
            show ((tideAt B hr).hi + 1 - ((tideAt B hr).lo + (m : Int) + 1)).toNat < ((tideAt B hr).hi + 1 - ((tideAt B hr).lo + (m : Int))).toNat
            omega
    · have hle' : decide ((tideAt B hr).lo + (m : Int) ≤ (tideAt B hr).hi) = false := decide_eq_false (by omega)
      have hle : (tideAt B hr).hi < (tideAt B hr).lo + (m : Int) := by omega
      obtain rfl : m = ((tideAt B hr).hi - (tideAt B hr).lo + 1).toNat := by omega
      have hLV : ListV W9 v (hts B hr (f0, f1)) := ListV.of_row (base := w.heap.size + 2) hown (by have := preL_len (tideAt B hr) (dep B.sounds []) hr f0 f1 ((tideAt B hr).hi - (tideAt B hr).lo + 1).toNat; show (preL (tideAt B hr) (dep B.sounds []) hr f0 f1 _).length ≤ 1000; omega)
      go_wp2_with fail
      go_ret
      exact ⟨_, rfl, hb9, hLV⟩
end Go.Proofs.YtkbmpkdflgimmaaDoor
