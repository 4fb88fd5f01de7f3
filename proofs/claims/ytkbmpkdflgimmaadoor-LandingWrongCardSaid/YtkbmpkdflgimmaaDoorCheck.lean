/- The contract of Check: whether a book is valid. -/
import Derived.Test.YtkbmpkdflgimmaaDoorSmall
namespace Go.Proofs.YtkbmpkdflgimmaaDoor
open Go.RowKit

def spanOk (s : Span) : Bool := spanB s.lo s.hi (-40) 80
def shoreOk (x : Shore) : Bool := spanB x.fl x.fh (-40) 80 && (inB x.lo (-40) x.hi && decide (x.hi ≤ 80))
def soundOk (n : Nat) (x : Sound) : Bool := inB x.hour 0 ((n : Int) - 1) && (inB x.shore 0 1 && inB x.deep 0 120)
def hdrB (B : Book) : Bool := inB B.tides.length 1 24 && (spanB B.el B.eh 0 40 && (inB B.sink 1 20 && (inB B.under 0 10 && decide ((B.sounds.length : Int) ≤ 6))))
def Book.valid (B : Book) : Bool := hdrB B && B.tides.all spanOk && shoreOk B.s0 && shoreOk B.s1 && B.sounds.all (soundOk B.tides.length)
def checkE (B : Book) : Int := if B.valid then 0 else 20

def shK (B : Book) : Nat → Bool
  | 0 => true
  | 1 => shoreOk B.s0
  | _ => shoreOk B.s0 && shoreOk B.s1
/-- What a function that boxes the book knows of its box. -/
def Box (B : Book) (ta : Option Addr) (tc : Nat) (sa : Option Addr) (sc : Nat) (w wx : World) : Prop := Below w.heap.size w wx ∧ w.heap.size < wx.heap.size ∧ (∀ j, wx.cell? ⟨w.heap.size, j, none⟩ = (bookCells B ta tc sa sc)[j]?)
theorem Box.more {B ta tc sa sc w wx wy} (h : Box B ta tc sa sc w wx) (hb : Below wx.heap.size wx wy) : Box B ta tc sa sc w wy :=
  ⟨h.1.trans (hb.mono h.1.size), Nat.lt_of_lt_of_le h.2.1 hb.size, fun j => (hb.cell (p := ⟨_, j, none⟩) h.2.1).trans (h.2.2 j)⟩
theorem Box.new (B : Book) (ta : Option Addr) (tc : Nat) (sa : Option Addr) (sc : Nat) (w : World) : Box B ta tc sa sc w (w.alloc (.cells (bookCells B ta tc sa sc) 30)) :=
  ⟨(Below.refl _ _).alloc (Nat.le_refl _) _, by simp, fun j => by simp [World.cell?_alloc_new]⟩

theorem und22 : Tryd.prog.underlying 22 = some (.slice 24) := Tryd.underlying22


set_option maxRecDepth 100000 in
set_option maxHeartbeats 1000000 in
theorem check_any (B : Book) (tb tq : Nat) (ta : Option Addr) (tc : Nat) (sb sq : Nat) (sa : Option Addr) (sc : Nat) (w : World) (hT : SpansAt w.heap.size w tb tq ta B.tides) (hS : SoundsAt w.heap.size w sb sq sa B.sounds) :
    Calls Tryd.prog 43 #[bookVal B ta tc sa sc] w fun e w' => e = .returned (.int .i64 (checkE B)) ∧ Below w.heap.size w w' := by
  have hT1 := hT.1
  have hS1 := hS.1
  go_enter Tryd.func43, Tryd.ntmps43
  go_upto_region 1 with fail
  go_cut [3] (fun s3 wx => s3 = .bool (hdrB B) ∧ Box B ta tc sa sc w wx)
  case first =>
    have hX := Box.new B ta tc sa sc w
    go_wp2_with (first | (go_at_call 80; refine (within_any _ _ _ _).mono ?_; rintro e w' ⟨rfl, rfl⟩) | (go_at_call 81; refine (isSpan_any _ _ _ _ _ (by omega) (by omega)).mono ?_; rintro e w' ⟨rfl, hb⟩; have hX := hX.more hb; obtain ⟨hc, hf⟩ := bcell hb; have hz : w.heap.size + 1 < w'.heap.size + 1 := by have := hb.size; simp at this; omega))
    all_goals
      go_meet
      case rel => exact ⟨by simp [hdrB, *], by assumption⟩
  case rest =>
    obtain ⟨rfl, hX⟩ := hcut
    generalize hh : hdrB B = h0
    have hh := Lib.hid hh
    obtain ⟨_, hz, hc⟩ := id hX
    go_wp2_with fail
    go_loopw [3, 38] (fun ok i wr => ∃ k : Nat, k ≤ B.tides.length ∧ i = .int .i64 k ∧ ok = .bool (h0 && (B.tides.take k).all spanOk) ∧ Box B ta tc sa sc w wr) (fun _ i _ => B.tides.length - (intOf i).toNat)
    case atStart => exact ⟨0, Nat.zero_le _, rfl, by simp, hX⟩
    case round =>
      clear hX hz hc
      obtain ⟨k, hk, rfl, rfl, hX⟩ := hrel
      obtain ⟨hW, hz, hc⟩ := id hX
      by_cases hlt : k < B.tides.length
      · have hn := ne_nil_of_lt hlt
        have hidx := idx22 (n := B.tides.length) (c := tc) (k := k) wr (hT.at_ hn) hlt
        have c0 : wr.cell? ⟨tb, tq + k * 2, none⟩ = some (i64 B.tides[k].lo) := (hW.cell (p := ⟨tb, _, none⟩) (hT.lt hn)).trans (hT.lo k hlt)
        have c1 : wr.cell? ⟨tb, tq + k * 2 + 1, none⟩ = some (i64 B.tides[k].hi) := (hW.cell (p := ⟨tb, _, none⟩) (hT.lt hn)).trans (hT.hi k hlt)
        have hs := Lib.hid (all_take_succ spanOk B.tides k hlt)
        have hA := (Below.refl wr.heap.size wr).alloc (Nat.le_refl _) (.cells #[i64 B.tides[k].lo, i64 B.tides[k].hi] 24)
        cases hok : (h0 && (B.tides.take k).all spanOk)
        · have hok := Lib.hid hok
          go_wp2_with fail
          go_roundw
          case rel => exact ⟨k + 1, by omega, by go_num, by rw [hs.out, ← Bool.and_assoc, hok.out]; rfl, hX.more hA⟩
          case measure => simp [intOf]; omega
        · have hok := Lib.hid hok
          go_wp2_with (go_at_call 81; refine (isSpan_any _ _ _ _ _ (by omega) (by omega)).mono ?_; rintro e w' ⟨rfl, hb⟩)
          go_roundw
          case rel => exact ⟨k + 1, by omega, by go_num, by rw [hs.out, ← Bool.and_assoc, hok.out]; rfl, (hX.more hA).more (by assumption)⟩
          case measure => simp [intOf]; omega
      · have hk' : k = B.tides.length := by omega
        subst hk'
        rw [List.take_length]
        generalize h1 : (h0 && B.tides.all spanOk) = ok1
        have h1 := Lib.hid h1
        go_wp2_with fail
        go_loopw [3, 50] (fun ok i wr => ∃ k : Nat, k ≤ 2 ∧ i = .int .i64 k ∧ ok = .bool (ok1 && shK B k) ∧ Box B ta tc sa sc w wr) (fun _ i _ => 2 - (intOf i).toNat)
        case atStart => exact ⟨0, by omega, rfl, by simp [shK], hX⟩
        case round =>
          clear hX hz hc hW
          obtain ⟨k, hk, rfl, rfl, hX⟩ := hrel
          obtain ⟨hW, hz, hc⟩ := id hX
          rcases (by omega : k = 0 ∨ k = 1 ∨ k = 2) with rfl | rfl | rfl
          · rw [show shK B 0 = true from rfl, Bool.and_true]
            have hX := hX.more ((Below.refl wr.heap.size wr).alloc (Nat.le_refl _) (.cells #[i64 B.s0.fl, i64 B.s0.fh, i64 B.s0.lo, i64 B.s0.hi] 26))
            have hi := ix27_0 (i64 B.s0.fl) (i64 B.s0.fh) (i64 B.s0.lo) (i64 B.s0.hi) (i64 B.s1.fl) (i64 B.s1.fh) (i64 B.s1.lo) (i64 B.s1.hi)
            go_wp2_with (first | (go_at_call 80; refine (within_any _ _ _ _).mono ?_; rintro e w' ⟨rfl, rfl⟩) | (go_at_call 81; refine (isSpan_any _ _ _ _ _ (by omega) (by omega)).mono ?_; rintro e w' ⟨rfl, hb⟩; have hX := hX.more hb; obtain ⟨hc1, hf1⟩ := bcell hb))
            all_goals
              go_roundw
              case rel => exact ⟨1, by omega, rfl, by simp [shK, shoreOk, *], by assumption⟩
              case measure => simp [intOf]
          · generalize hq : (ok1 && shK B 1) = q1
            have hq := Lib.hid hq
            have hX := hX.more ((Below.refl wr.heap.size wr).alloc (Nat.le_refl _) (.cells #[i64 B.s1.fl, i64 B.s1.fh, i64 B.s1.lo, i64 B.s1.hi] 26))
            have hi := ix27_1 (i64 B.s0.fl) (i64 B.s0.fh) (i64 B.s0.lo) (i64 B.s0.hi) (i64 B.s1.fl) (i64 B.s1.fh) (i64 B.s1.lo) (i64 B.s1.hi)
            go_wp2_with (first | (go_at_call 80; refine (within_any _ _ _ _).mono ?_; rintro e w' ⟨rfl, rfl⟩) | (go_at_call 81; refine (isSpan_any _ _ _ _ _ (by omega) (by omega)).mono ?_; rintro e w' ⟨rfl, hb⟩; have hX := hX.more hb; obtain ⟨hc1, hf1⟩ := bcell hb))
            all_goals
              go_roundw
              case rel => exact ⟨2, by omega, rfl, by rw [show shK B 2 = (shK B 1 && shoreOk B.s1) from rfl, ← Bool.and_assoc, hq.out]; simp [shoreOk, *], by assumption⟩
              case measure => simp [intOf]
          · generalize h2 : (ok1 && shK B 2) = ok2
            have h2 := Lib.hid h2
            go_wp2_with fail
            go_loopw [3, 75] (fun ok i wr => ∃ k : Nat, k ≤ B.sounds.length ∧ i = .int .i64 k ∧ ok = .bool (ok2 && (B.sounds.take k).all (soundOk B.tides.length)) ∧ Box B ta tc sa sc w wr) (fun _ i _ => B.sounds.length - (intOf i).toNat)
            case atStart => exact ⟨0, by omega, rfl, by simp, hX⟩
            case round =>
              clear hX hz hc hW
              obtain ⟨k, hk, rfl, rfl, hX⟩ := hrel
              obtain ⟨hW, hz, hc⟩ := id hX
              by_cases hlt : k < B.sounds.length
              · have hn := ne_nil_of_lt hlt
                have hidx := idx28 (n := B.sounds.length) (c := sc) (k := k) wr (hS.at_ hn) hlt
                have c0 : wr.cell? ⟨sb, sq + k * 3, none⟩ = some (i64 B.sounds[k].hour) := (hW.cell (p := ⟨sb, _, none⟩) (hS.lt hn)).trans (hS.hour k hlt)
                have c1 : wr.cell? ⟨sb, sq + k * 3 + 1, none⟩ = some (i64 B.sounds[k].shore) := (hW.cell (p := ⟨sb, _, none⟩) (hS.lt hn)).trans (hS.shore k hlt)
                have c2 : wr.cell? ⟨sb, sq + k * 3 + 2, none⟩ = some (i64 B.sounds[k].deep) := (hW.cell (p := ⟨sb, _, none⟩) (hS.lt hn)).trans (hS.deep k hlt)
                have hs := Lib.hid (all_take_succ (soundOk B.tides.length) B.sounds k hlt)
                generalize hq : (ok2 && (B.sounds.take k).all (soundOk B.tides.length)) = q2
                have hq := Lib.hid hq
                have hX := hX.more ((Below.refl wr.heap.size wr).alloc (Nat.le_refl _) (.cells #[i64 B.sounds[k].hour, i64 B.sounds[k].shore, i64 B.sounds[k].deep] 70))
                go_wp2_with (first | (go_at_call 80; refine (within_any _ _ _ _).mono ?_; rintro e w' ⟨rfl, rfl⟩) | (go_at_call 76; refine (isShore_any _ _).mono ?_; rintro e w' ⟨rfl, rfl⟩) | (go_at_call 73; refine (isHour_any B ta tc sa sc _ _ hT1).mono ?_; rintro e w' ⟨rfl, hb⟩; have hX := hX.more hb; obtain ⟨hc1, hf1⟩ := bcell hb))
                all_goals
                  go_roundw
                  case rel => first | exact ⟨k + 1, by omega, by go_num, by rw [hs.out, ← Bool.and_assoc, hq.out]; simp [soundOk, *], by assumption⟩ | ((repeat apply Exists.intro); exact ⟨⟨k + 1, by omega, by go_num, by rw [hs.out, ← Bool.and_assoc, hq.out]; simp [soundOk, *], by assumption⟩, rfl⟩)
                  case measure => simp [intOf]; omega
              · have hk' : k = B.sounds.length := by omega
                subst hk'
                rw [List.take_length]
                generalize h3 : (ok2 && B.sounds.all (soundOk B.tides.length)) = ok3
                have h3 := Lib.hid h3
                have fin : Hid (checkE B = if ok3 then 0 else 20) := by
                  show _ = _
                  rw [← h3.out, ← h2.out, ← h1.out, ← hh.out]
                  simp [checkE, Book.valid, shK, Bool.and_assoc]
                cases ok3
                · go_wp2_with fail
                  go_ret
                  exact ⟨by rw [fin.out]; rfl, hW⟩
                · go_wp2_with fail
                  go_ret
                  exact ⟨by rw [fin.out]; rfl, hW⟩
end Go.Proofs.YtkbmpkdflgimmaaDoor
