/-
  NARROWER THAN 'FOR EVERY INPUT', by the rows' own cells (each row's printed sentence says how): LandingHeights: laid · LandingLands: laid · LandingFirsts: laid · LandingTrue: laid · LandingEnds: laid · LandingMore: laid · LandingMost: laid · LandingFirst: laid · LandingWrong: laid · LandingEasier: laid · LandingHigher: laid · LandingKnown: laid.
  DERIVED. THE GIVEN ROWS OF THIS SEAT. 12 by the template 'for every input the law returns true; each argument reads behind the call as it read before'; 0 by the template 'total and deterministic' (their statements: YtkbmpkdflgimmaaDoorTotals.lean).
  GIVEN WITH THE SEED: the statements are not yours to turn. If you find one false, say at which input.
  Laid BY PROGRAM, IN A SANDBOX (cutbox-rows.mjs): the forced cells as the released guide's own fill.sh prints them over the translation b251d07efd02d325… (all of the seat's roots in one cut). By AI agents, Wed Nov 11 2026. No macro, syntax, notation, axiom, sorry.
-/
import Derived.Test.YtkbmpkdflgimmaaDoorChecked
import GoSem.Claim
import GoSem.ClaimJoined
import GoSem.ClaimMapViews
import Derived.JoinedTies
import Derived.KernelRfl
namespace Go.Proofs.YtkbmpkdflgimmaaDoor
/- THE CELL 'sum', in the pinned program and in every row, IS THE sha256 OF THE DUMP (.gsa) THAT YtkbmpkdflgimmaaDoorProg.lean LOADS. Nothing in Lean hashes anything: it is a label: what it is worth is what the hold of that sum in a sandbox is worth. -/
noncomputable def Tryd.pinned : Pinned := { name := "ytkbmpkdflgimmaadoor", sum := "b251d07efd02d325c3a9640571478c1e25b0c68e917844c381df9fcd28ea3b7b", checked := Tryd.checked }
namespace Rows
def none {H : Type} : Left H := { results := [], args := [] }

/- WHAT THE LISTED PACKAGE-LEVEL VARIABLES READ AS WHEN THE CALL BEGINS. Each datum BY PROGRAM (the guide's laid-datum.mjs) off the statement by which the dump's own 'gosem.cut.vars' lays the variable. In a bare row this is a premise. The card (YtkbmpkdflgimmaaDoorCards.lean) ties it to the program's text. -/
def laid_prow_landing_nowhere {H : Type} : DataW H := .agg [.lit (.int .i64 (-1)), .lit (.int .i64 (-1))]
def laid_prow_landing_unknown {H : Type} : DataW H := .agg [.lit (.int .i64 (-41)), .lit (.int .i64 (-41))]
def laid_prow_landing_asks {H : Type} : DataW H := .iface "func table" (.agg [.iface "func" (.lit (.string [40, 112, 114, 111, 119, 47, 108, 97, 110, 100, 105, 110, 103, 46, 98, 111, 111, 107, 41, 46, 109, 97, 121])), .iface "func" (.lit (.string [40, 112, 114, 111, 119, 47, 108, 97, 110, 100, 105, 110, 103, 46, 98, 111, 111, 107, 41, 46, 109, 117, 115, 116]))])

/-- 'prowlaw02.LandingHeights': WHATEVER THE INPUT: true; the input reads as it did. -/
def landingHeightsSpec : ChangeSpec := { name := "landingHeights", fn := fun _ => fun
  | [d1, d2] => { results := [.lit (.bool true)], args := [d1, d2] }
  | _ => none }
def landingHeightsRow : OpenClaim := { program := "ytkbmpkdflgimmaadoor", sum := "b251d07efd02d325c3a9640571478c1e25b0c68e917844c381df9fcd28ea3b7b", func := "prow/prowlaw02.LandingHeights", spec := "landingHeights", unfollowed := true, recurses := true, named := ["prow/landing.nowhere", "prow/landing.unknown", "prow/landing.asks"], plainKeys := false, apart := false, laid := [("prow/landing.nowhere", laid_prow_landing_nowhere), ("prow/landing.unknown", laid_prow_landing_unknown), ("prow/landing.asks", laid_prow_landing_asks)] }
def LandingHeightsSaid : Prop := landingHeightsRow.holds Tryd.pinned (OpenSpec.ofChange landingHeightsSpec)

/-- ITS FALSE NEIGHBOUR: 'it returns false'. Refute it at one input. -/
def landingHeightsWrong : ChangeSpec := { name := "landingHeights", fn := fun _ => fun
  | [d1, d2] => { results := [.lit (.bool false)], args := [d1, d2] }
  | _ => none }
def LandingHeightsWrongFalsely : Prop := landingHeightsRow.holds Tryd.pinned (OpenSpec.ofChange landingHeightsWrong)

/-- 'prowlaw02.LandingLands': WHATEVER THE INPUT: true; the input reads as it did. -/
def landingLandsSpec : ChangeSpec := { name := "landingLands", fn := fun _ => fun
  | [d1, d2] => { results := [.lit (.bool true)], args := [d1, d2] }
  | _ => none }
def landingLandsRow : OpenClaim := { program := "ytkbmpkdflgimmaadoor", sum := "b251d07efd02d325c3a9640571478c1e25b0c68e917844c381df9fcd28ea3b7b", func := "prow/prowlaw02.LandingLands", spec := "landingLands", unfollowed := true, recurses := true, named := ["prow/landing.asks", "prow/landing.nowhere", "prow/landing.unknown"], plainKeys := false, apart := false, laid := [("prow/landing.nowhere", laid_prow_landing_nowhere), ("prow/landing.unknown", laid_prow_landing_unknown), ("prow/landing.asks", laid_prow_landing_asks)] }
def LandingLandsSaid : Prop := landingLandsRow.holds Tryd.pinned (OpenSpec.ofChange landingLandsSpec)

/-- ITS FALSE NEIGHBOUR: 'it returns false'. Refute it at one input. -/
def landingLandsWrong : ChangeSpec := { name := "landingLands", fn := fun _ => fun
  | [d1, d2] => { results := [.lit (.bool false)], args := [d1, d2] }
  | _ => none }
def LandingLandsWrongFalsely : Prop := landingLandsRow.holds Tryd.pinned (OpenSpec.ofChange landingLandsWrong)

/-- 'prowlaw02.LandingFirsts': WHATEVER THE INPUT: true; the input reads as it did. -/
def landingFirstsSpec : ChangeSpec := { name := "landingFirsts", fn := fun _ => fun
  | [d1, d2] => { results := [.lit (.bool true)], args := [d1, d2] }
  | _ => none }
def landingFirstsRow : OpenClaim := { program := "ytkbmpkdflgimmaadoor", sum := "b251d07efd02d325c3a9640571478c1e25b0c68e917844c381df9fcd28ea3b7b", func := "prow/prowlaw02.LandingFirsts", spec := "landingFirsts", unfollowed := true, recurses := true, named := ["prow/landing.nowhere", "prow/landing.unknown", "prow/landing.asks"], plainKeys := false, apart := false, laid := [("prow/landing.nowhere", laid_prow_landing_nowhere), ("prow/landing.unknown", laid_prow_landing_unknown), ("prow/landing.asks", laid_prow_landing_asks)] }
def LandingFirstsSaid : Prop := landingFirstsRow.holds Tryd.pinned (OpenSpec.ofChange landingFirstsSpec)

/-- ITS FALSE NEIGHBOUR: 'it returns false'. Refute it at one input. -/
def landingFirstsWrong : ChangeSpec := { name := "landingFirsts", fn := fun _ => fun
  | [d1, d2] => { results := [.lit (.bool false)], args := [d1, d2] }
  | _ => none }
def LandingFirstsWrongFalsely : Prop := landingFirstsRow.holds Tryd.pinned (OpenSpec.ofChange landingFirstsWrong)

/-- 'prowlaw02.LandingTrue': WHATEVER THE INPUT: true; the input reads as it did. -/
def landingTrueSpec : ChangeSpec := { name := "landingTrue", fn := fun _ => fun
  | [d1, d2, d3] => { results := [.lit (.bool true)], args := [d1, d2, d3] }
  | _ => none }
def landingTrueRow : OpenClaim := { program := "ytkbmpkdflgimmaadoor", sum := "b251d07efd02d325c3a9640571478c1e25b0c68e917844c381df9fcd28ea3b7b", func := "prow/prowlaw02.LandingTrue", spec := "landingTrue", unfollowed := true, recurses := true, named := ["prow/landing.nowhere", "prow/landing.unknown", "prow/landing.asks"], plainKeys := false, apart := false, laid := [("prow/landing.nowhere", laid_prow_landing_nowhere), ("prow/landing.unknown", laid_prow_landing_unknown), ("prow/landing.asks", laid_prow_landing_asks)] }
def LandingTrueSaid : Prop := landingTrueRow.holds Tryd.pinned (OpenSpec.ofChange landingTrueSpec)

/-- ITS FALSE NEIGHBOUR: 'it returns false'. Refute it at one input. -/
def landingTrueWrong : ChangeSpec := { name := "landingTrue", fn := fun _ => fun
  | [d1, d2, d3] => { results := [.lit (.bool false)], args := [d1, d2, d3] }
  | _ => none }
def LandingTrueWrongFalsely : Prop := landingTrueRow.holds Tryd.pinned (OpenSpec.ofChange landingTrueWrong)

/-- 'prowlaw02.LandingEnds': WHATEVER THE INPUT: true; the input reads as it did. -/
def landingEndsSpec : ChangeSpec := { name := "landingEnds", fn := fun _ => fun
  | [d1, d2] => { results := [.lit (.bool true)], args := [d1, d2] }
  | _ => none }
def landingEndsRow : OpenClaim := { program := "ytkbmpkdflgimmaadoor", sum := "b251d07efd02d325c3a9640571478c1e25b0c68e917844c381df9fcd28ea3b7b", func := "prow/prowlaw02.LandingEnds", spec := "landingEnds", unfollowed := true, recurses := true, named := ["prow/landing.nowhere", "prow/landing.unknown", "prow/landing.asks"], plainKeys := false, apart := false, laid := [("prow/landing.nowhere", laid_prow_landing_nowhere), ("prow/landing.unknown", laid_prow_landing_unknown), ("prow/landing.asks", laid_prow_landing_asks)] }
def LandingEndsSaid : Prop := landingEndsRow.holds Tryd.pinned (OpenSpec.ofChange landingEndsSpec)

/-- ITS FALSE NEIGHBOUR: 'it returns false'. Refute it at one input. -/
def landingEndsWrong : ChangeSpec := { name := "landingEnds", fn := fun _ => fun
  | [d1, d2] => { results := [.lit (.bool false)], args := [d1, d2] }
  | _ => none }
def LandingEndsWrongFalsely : Prop := landingEndsRow.holds Tryd.pinned (OpenSpec.ofChange landingEndsWrong)

/-- 'prowlaw02.LandingMore': WHATEVER THE INPUT: true; the input reads as it did. -/
def landingMoreSpec : ChangeSpec := { name := "landingMore", fn := fun _ => fun
  | [d1, d2, d3] => { results := [.lit (.bool true)], args := [d1, d2, d3] }
  | _ => none }
def landingMoreRow : OpenClaim := { program := "ytkbmpkdflgimmaadoor", sum := "b251d07efd02d325c3a9640571478c1e25b0c68e917844c381df9fcd28ea3b7b", func := "prow/prowlaw02.LandingMore", spec := "landingMore", unfollowed := true, recurses := true, named := ["prow/landing.nowhere", "prow/landing.unknown", "prow/landing.asks"], plainKeys := false, apart := false, laid := [("prow/landing.nowhere", laid_prow_landing_nowhere), ("prow/landing.unknown", laid_prow_landing_unknown), ("prow/landing.asks", laid_prow_landing_asks)] }
def LandingMoreSaid : Prop := landingMoreRow.holds Tryd.pinned (OpenSpec.ofChange landingMoreSpec)

/-- ITS FALSE NEIGHBOUR: 'it returns false'. Refute it at one input. -/
def landingMoreWrong : ChangeSpec := { name := "landingMore", fn := fun _ => fun
  | [d1, d2, d3] => { results := [.lit (.bool false)], args := [d1, d2, d3] }
  | _ => none }
def LandingMoreWrongFalsely : Prop := landingMoreRow.holds Tryd.pinned (OpenSpec.ofChange landingMoreWrong)

/-- 'prowlaw02.LandingMost': WHATEVER THE INPUT: true; the input reads as it did. -/
def landingMostSpec : ChangeSpec := { name := "landingMost", fn := fun _ => fun
  | [d1, d2] => { results := [.lit (.bool true)], args := [d1, d2] }
  | _ => none }
def landingMostRow : OpenClaim := { program := "ytkbmpkdflgimmaadoor", sum := "b251d07efd02d325c3a9640571478c1e25b0c68e917844c381df9fcd28ea3b7b", func := "prow/prowlaw02.LandingMost", spec := "landingMost", unfollowed := true, recurses := true, named := ["prow/landing.nowhere", "prow/landing.unknown", "prow/landing.asks"], plainKeys := false, apart := false, laid := [("prow/landing.nowhere", laid_prow_landing_nowhere), ("prow/landing.unknown", laid_prow_landing_unknown), ("prow/landing.asks", laid_prow_landing_asks)] }
def LandingMostSaid : Prop := landingMostRow.holds Tryd.pinned (OpenSpec.ofChange landingMostSpec)

/-- ITS FALSE NEIGHBOUR: 'it returns false'. Refute it at one input. -/
def landingMostWrong : ChangeSpec := { name := "landingMost", fn := fun _ => fun
  | [d1, d2] => { results := [.lit (.bool false)], args := [d1, d2] }
  | _ => none }
def LandingMostWrongFalsely : Prop := landingMostRow.holds Tryd.pinned (OpenSpec.ofChange landingMostWrong)

/-- 'prowlaw02.LandingFirst': WHATEVER THE INPUT: true; the input reads as it did. -/
def landingFirstSpec : ChangeSpec := { name := "landingFirst", fn := fun _ => fun
  | [d1, d2] => { results := [.lit (.bool true)], args := [d1, d2] }
  | _ => none }
def landingFirstRow : OpenClaim := { program := "ytkbmpkdflgimmaadoor", sum := "b251d07efd02d325c3a9640571478c1e25b0c68e917844c381df9fcd28ea3b7b", func := "prow/prowlaw02.LandingFirst", spec := "landingFirst", unfollowed := true, recurses := true, named := ["prow/landing.nowhere", "prow/landing.unknown", "prow/landing.asks"], plainKeys := false, apart := false, laid := [("prow/landing.nowhere", laid_prow_landing_nowhere), ("prow/landing.unknown", laid_prow_landing_unknown), ("prow/landing.asks", laid_prow_landing_asks)] }
def LandingFirstSaid : Prop := landingFirstRow.holds Tryd.pinned (OpenSpec.ofChange landingFirstSpec)

/-- ITS FALSE NEIGHBOUR: 'it returns false'. Refute it at one input. -/
def landingFirstWrong : ChangeSpec := { name := "landingFirst", fn := fun _ => fun
  | [d1, d2] => { results := [.lit (.bool false)], args := [d1, d2] }
  | _ => none }
def LandingFirstWrongFalsely : Prop := landingFirstRow.holds Tryd.pinned (OpenSpec.ofChange landingFirstWrong)

/-- 'prowlaw02.LandingWrong': WHATEVER THE INPUT: true; the input reads as it did. -/
def landingWrongSpec : ChangeSpec := { name := "landingWrong", fn := fun _ => fun
  | [d1, d2] => { results := [.lit (.bool true)], args := [d1, d2] }
  | _ => none }
def landingWrongRow : OpenClaim := { program := "ytkbmpkdflgimmaadoor", sum := "b251d07efd02d325c3a9640571478c1e25b0c68e917844c381df9fcd28ea3b7b", func := "prow/prowlaw02.LandingWrong", spec := "landingWrong", unfollowed := true, recurses := true, named := ["prow/landing.nowhere", "prow/landing.unknown", "prow/landing.asks"], plainKeys := false, apart := false, laid := [("prow/landing.nowhere", laid_prow_landing_nowhere), ("prow/landing.unknown", laid_prow_landing_unknown), ("prow/landing.asks", laid_prow_landing_asks)] }
def LandingWrongSaid : Prop := landingWrongRow.holds Tryd.pinned (OpenSpec.ofChange landingWrongSpec)

/-- ITS FALSE NEIGHBOUR: 'it returns false'. Refute it at one input. -/
def landingWrongWrong : ChangeSpec := { name := "landingWrong", fn := fun _ => fun
  | [d1, d2] => { results := [.lit (.bool false)], args := [d1, d2] }
  | _ => none }
def LandingWrongWrongFalsely : Prop := landingWrongRow.holds Tryd.pinned (OpenSpec.ofChange landingWrongWrong)

/-- 'prowlaw02.LandingEasier': WHATEVER THE INPUT: true; the input reads as it did. -/
def landingEasierSpec : ChangeSpec := { name := "landingEasier", fn := fun _ => fun
  | [d1, d2] => { results := [.lit (.bool true)], args := [d1, d2] }
  | _ => none }
def landingEasierRow : OpenClaim := { program := "ytkbmpkdflgimmaadoor", sum := "b251d07efd02d325c3a9640571478c1e25b0c68e917844c381df9fcd28ea3b7b", func := "prow/prowlaw02.LandingEasier", spec := "landingEasier", unfollowed := true, recurses := true, named := ["prow/landing.nowhere", "prow/landing.unknown", "prow/landing.asks"], plainKeys := false, apart := false, laid := [("prow/landing.nowhere", laid_prow_landing_nowhere), ("prow/landing.unknown", laid_prow_landing_unknown), ("prow/landing.asks", laid_prow_landing_asks)] }
def LandingEasierSaid : Prop := landingEasierRow.holds Tryd.pinned (OpenSpec.ofChange landingEasierSpec)

/-- ITS FALSE NEIGHBOUR: 'it returns false'. Refute it at one input. -/
def landingEasierWrong : ChangeSpec := { name := "landingEasier", fn := fun _ => fun
  | [d1, d2] => { results := [.lit (.bool false)], args := [d1, d2] }
  | _ => none }
def LandingEasierWrongFalsely : Prop := landingEasierRow.holds Tryd.pinned (OpenSpec.ofChange landingEasierWrong)

/-- 'prowlaw02.LandingHigher': WHATEVER THE INPUT: true; the input reads as it did. -/
def landingHigherSpec : ChangeSpec := { name := "landingHigher", fn := fun _ => fun
  | [d1, d2] => { results := [.lit (.bool true)], args := [d1, d2] }
  | _ => none }
def landingHigherRow : OpenClaim := { program := "ytkbmpkdflgimmaadoor", sum := "b251d07efd02d325c3a9640571478c1e25b0c68e917844c381df9fcd28ea3b7b", func := "prow/prowlaw02.LandingHigher", spec := "landingHigher", unfollowed := true, recurses := true, named := ["prow/landing.nowhere", "prow/landing.unknown", "prow/landing.asks"], plainKeys := false, apart := false, laid := [("prow/landing.nowhere", laid_prow_landing_nowhere), ("prow/landing.unknown", laid_prow_landing_unknown), ("prow/landing.asks", laid_prow_landing_asks)] }
def LandingHigherSaid : Prop := landingHigherRow.holds Tryd.pinned (OpenSpec.ofChange landingHigherSpec)

/-- ITS FALSE NEIGHBOUR: 'it returns false'. Refute it at one input. -/
def landingHigherWrong : ChangeSpec := { name := "landingHigher", fn := fun _ => fun
  | [d1, d2] => { results := [.lit (.bool false)], args := [d1, d2] }
  | _ => none }
def LandingHigherWrongFalsely : Prop := landingHigherRow.holds Tryd.pinned (OpenSpec.ofChange landingHigherWrong)

/-- 'prowlaw02.LandingKnown': WHATEVER THE INPUT: true; the input reads as it did. -/
def landingKnownSpec : ChangeSpec := { name := "landingKnown", fn := fun _ => fun
  | [] => { results := [.lit (.bool true)], args := [] }
  | _ => none }
def landingKnownRow : OpenClaim := { program := "ytkbmpkdflgimmaadoor", sum := "b251d07efd02d325c3a9640571478c1e25b0c68e917844c381df9fcd28ea3b7b", func := "prow/prowlaw02.LandingKnown", spec := "landingKnown", unfollowed := true, recurses := true, named := ["prow/landing.nowhere", "prow/landing.unknown", "prow/landing.asks"], plainKeys := false, apart := false, laid := [("prow/landing.nowhere", laid_prow_landing_nowhere), ("prow/landing.unknown", laid_prow_landing_unknown), ("prow/landing.asks", laid_prow_landing_asks)] }
def LandingKnownSaid : Prop := landingKnownRow.holds Tryd.pinned (OpenSpec.ofChange landingKnownSpec)

/-- ITS FALSE NEIGHBOUR: 'it returns false'. Refute it at one input. -/
def landingKnownWrong : ChangeSpec := { name := "landingKnown", fn := fun _ => fun
  | [] => { results := [.lit (.bool false)], args := [] }
  | _ => none }
def LandingKnownWrongFalsely : Prop := landingKnownRow.holds Tryd.pinned (OpenSpec.ofChange landingKnownWrong)

/- THE SECOND FORM. 'bulk': how many values and letters a reading holds, each counted each time it is reached (what is shared counts as often as it is met; a slice's spare places count too). A statement '..UptoSaid' is the law's where the arguments, and the package variables that the reading takes, are together of bulk at most 1048576: NARROWER than '..Said'. Prove '..Said' where nothing that the law and all that it calls make is longer than what came in: it says more and counts as full. Else prove '..UptoSaid'. A law counts once. -/
mutual
def uptoBulk {H : Type} : DataW H → Nat
  | .lit (.string bytes) => bytes.length + 1
  | .lit _ => 1
  | .nil => 1
  | .ptr d => uptoBulk d + 1
  | .slice elems spare => uptoBulkAll elems + uptoBulkAll spare + 1
  | .agg parts => uptoBulkAll parts + 1
  | .iface _ d => uptoBulk d + 1
  | .map entries => uptoBulkEntries entries + 1
  | .held _ => 1
def uptoBulkAll {H : Type} : List (DataW H) → Nat
  | [] => 0
  | d :: r => uptoBulk d + uptoBulkAll r
def uptoBulkEntries {H : Type} : List (Lit × DataW H) → Nat
  | [] => 0
  | x :: r => uptoBulkEntry x + uptoBulkEntries r
def uptoBulkEntry {H : Type} : Lit × DataW H → Nat
  | (.string bytes, d) => bytes.length + uptoBulk d + 1
  | (_, d) => uptoBulk d + 1
 end
def uptoSmall : (H : Type) → List (DataW H) → Bool := fun _ ds => decide (uptoBulkAll ds ≤ 1048576)
def OpenSpec.upto (s : _root_.Go.ChangeSpec) : _root_.Go.OpenSpec := { _root_.Go.OpenSpec.ofChange s with cond := some uptoSmall }

/-- 'prowlaw02.LandingHeights', WHERE WHAT IT READS IS OF BULK AT MOST 1048576: true; the input reads as it did. -/
def landingHeightsUptoRow : OpenClaim := { program := "ytkbmpkdflgimmaadoor", sum := "b251d07efd02d325c3a9640571478c1e25b0c68e917844c381df9fcd28ea3b7b", func := "prow/prowlaw02.LandingHeights", spec := "landingHeights", unfollowed := true, recurses := true, named := ["prow/landing.nowhere", "prow/landing.unknown", "prow/landing.asks"], plainKeys := false, apart := false, laid := [("prow/landing.nowhere", laid_prow_landing_nowhere), ("prow/landing.unknown", laid_prow_landing_unknown), ("prow/landing.asks", laid_prow_landing_asks)], narrowed := true }
def LandingHeightsUptoSaid : Prop := landingHeightsUptoRow.holds Tryd.pinned (OpenSpec.upto landingHeightsSpec)

/-- 'prowlaw02.LandingLands', WHERE WHAT IT READS IS OF BULK AT MOST 1048576: true; the input reads as it did. -/
def landingLandsUptoRow : OpenClaim := { program := "ytkbmpkdflgimmaadoor", sum := "b251d07efd02d325c3a9640571478c1e25b0c68e917844c381df9fcd28ea3b7b", func := "prow/prowlaw02.LandingLands", spec := "landingLands", unfollowed := true, recurses := true, named := ["prow/landing.asks", "prow/landing.nowhere", "prow/landing.unknown"], plainKeys := false, apart := false, laid := [("prow/landing.nowhere", laid_prow_landing_nowhere), ("prow/landing.unknown", laid_prow_landing_unknown), ("prow/landing.asks", laid_prow_landing_asks)], narrowed := true }
def LandingLandsUptoSaid : Prop := landingLandsUptoRow.holds Tryd.pinned (OpenSpec.upto landingLandsSpec)

/-- 'prowlaw02.LandingFirsts', WHERE WHAT IT READS IS OF BULK AT MOST 1048576: true; the input reads as it did. -/
def landingFirstsUptoRow : OpenClaim := { program := "ytkbmpkdflgimmaadoor", sum := "b251d07efd02d325c3a9640571478c1e25b0c68e917844c381df9fcd28ea3b7b", func := "prow/prowlaw02.LandingFirsts", spec := "landingFirsts", unfollowed := true, recurses := true, named := ["prow/landing.nowhere", "prow/landing.unknown", "prow/landing.asks"], plainKeys := false, apart := false, laid := [("prow/landing.nowhere", laid_prow_landing_nowhere), ("prow/landing.unknown", laid_prow_landing_unknown), ("prow/landing.asks", laid_prow_landing_asks)], narrowed := true }
def LandingFirstsUptoSaid : Prop := landingFirstsUptoRow.holds Tryd.pinned (OpenSpec.upto landingFirstsSpec)

/-- 'prowlaw02.LandingTrue', WHERE WHAT IT READS IS OF BULK AT MOST 1048576: true; the input reads as it did. -/
def landingTrueUptoRow : OpenClaim := { program := "ytkbmpkdflgimmaadoor", sum := "b251d07efd02d325c3a9640571478c1e25b0c68e917844c381df9fcd28ea3b7b", func := "prow/prowlaw02.LandingTrue", spec := "landingTrue", unfollowed := true, recurses := true, named := ["prow/landing.nowhere", "prow/landing.unknown", "prow/landing.asks"], plainKeys := false, apart := false, laid := [("prow/landing.nowhere", laid_prow_landing_nowhere), ("prow/landing.unknown", laid_prow_landing_unknown), ("prow/landing.asks", laid_prow_landing_asks)], narrowed := true }
def LandingTrueUptoSaid : Prop := landingTrueUptoRow.holds Tryd.pinned (OpenSpec.upto landingTrueSpec)

/-- 'prowlaw02.LandingEnds', WHERE WHAT IT READS IS OF BULK AT MOST 1048576: true; the input reads as it did. -/
def landingEndsUptoRow : OpenClaim := { program := "ytkbmpkdflgimmaadoor", sum := "b251d07efd02d325c3a9640571478c1e25b0c68e917844c381df9fcd28ea3b7b", func := "prow/prowlaw02.LandingEnds", spec := "landingEnds", unfollowed := true, recurses := true, named := ["prow/landing.nowhere", "prow/landing.unknown", "prow/landing.asks"], plainKeys := false, apart := false, laid := [("prow/landing.nowhere", laid_prow_landing_nowhere), ("prow/landing.unknown", laid_prow_landing_unknown), ("prow/landing.asks", laid_prow_landing_asks)], narrowed := true }
def LandingEndsUptoSaid : Prop := landingEndsUptoRow.holds Tryd.pinned (OpenSpec.upto landingEndsSpec)

/-- 'prowlaw02.LandingMore', WHERE WHAT IT READS IS OF BULK AT MOST 1048576: true; the input reads as it did. -/
def landingMoreUptoRow : OpenClaim := { program := "ytkbmpkdflgimmaadoor", sum := "b251d07efd02d325c3a9640571478c1e25b0c68e917844c381df9fcd28ea3b7b", func := "prow/prowlaw02.LandingMore", spec := "landingMore", unfollowed := true, recurses := true, named := ["prow/landing.nowhere", "prow/landing.unknown", "prow/landing.asks"], plainKeys := false, apart := false, laid := [("prow/landing.nowhere", laid_prow_landing_nowhere), ("prow/landing.unknown", laid_prow_landing_unknown), ("prow/landing.asks", laid_prow_landing_asks)], narrowed := true }
def LandingMoreUptoSaid : Prop := landingMoreUptoRow.holds Tryd.pinned (OpenSpec.upto landingMoreSpec)

/-- 'prowlaw02.LandingMost', WHERE WHAT IT READS IS OF BULK AT MOST 1048576: true; the input reads as it did. -/
def landingMostUptoRow : OpenClaim := { program := "ytkbmpkdflgimmaadoor", sum := "b251d07efd02d325c3a9640571478c1e25b0c68e917844c381df9fcd28ea3b7b", func := "prow/prowlaw02.LandingMost", spec := "landingMost", unfollowed := true, recurses := true, named := ["prow/landing.nowhere", "prow/landing.unknown", "prow/landing.asks"], plainKeys := false, apart := false, laid := [("prow/landing.nowhere", laid_prow_landing_nowhere), ("prow/landing.unknown", laid_prow_landing_unknown), ("prow/landing.asks", laid_prow_landing_asks)], narrowed := true }
def LandingMostUptoSaid : Prop := landingMostUptoRow.holds Tryd.pinned (OpenSpec.upto landingMostSpec)

/-- 'prowlaw02.LandingFirst', WHERE WHAT IT READS IS OF BULK AT MOST 1048576: true; the input reads as it did. -/
def landingFirstUptoRow : OpenClaim := { program := "ytkbmpkdflgimmaadoor", sum := "b251d07efd02d325c3a9640571478c1e25b0c68e917844c381df9fcd28ea3b7b", func := "prow/prowlaw02.LandingFirst", spec := "landingFirst", unfollowed := true, recurses := true, named := ["prow/landing.nowhere", "prow/landing.unknown", "prow/landing.asks"], plainKeys := false, apart := false, laid := [("prow/landing.nowhere", laid_prow_landing_nowhere), ("prow/landing.unknown", laid_prow_landing_unknown), ("prow/landing.asks", laid_prow_landing_asks)], narrowed := true }
def LandingFirstUptoSaid : Prop := landingFirstUptoRow.holds Tryd.pinned (OpenSpec.upto landingFirstSpec)

/-- 'prowlaw02.LandingWrong', WHERE WHAT IT READS IS OF BULK AT MOST 1048576: true; the input reads as it did. -/
def landingWrongUptoRow : OpenClaim := { program := "ytkbmpkdflgimmaadoor", sum := "b251d07efd02d325c3a9640571478c1e25b0c68e917844c381df9fcd28ea3b7b", func := "prow/prowlaw02.LandingWrong", spec := "landingWrong", unfollowed := true, recurses := true, named := ["prow/landing.nowhere", "prow/landing.unknown", "prow/landing.asks"], plainKeys := false, apart := false, laid := [("prow/landing.nowhere", laid_prow_landing_nowhere), ("prow/landing.unknown", laid_prow_landing_unknown), ("prow/landing.asks", laid_prow_landing_asks)], narrowed := true }
def LandingWrongUptoSaid : Prop := landingWrongUptoRow.holds Tryd.pinned (OpenSpec.upto landingWrongSpec)

/-- 'prowlaw02.LandingEasier', WHERE WHAT IT READS IS OF BULK AT MOST 1048576: true; the input reads as it did. -/
def landingEasierUptoRow : OpenClaim := { program := "ytkbmpkdflgimmaadoor", sum := "b251d07efd02d325c3a9640571478c1e25b0c68e917844c381df9fcd28ea3b7b", func := "prow/prowlaw02.LandingEasier", spec := "landingEasier", unfollowed := true, recurses := true, named := ["prow/landing.nowhere", "prow/landing.unknown", "prow/landing.asks"], plainKeys := false, apart := false, laid := [("prow/landing.nowhere", laid_prow_landing_nowhere), ("prow/landing.unknown", laid_prow_landing_unknown), ("prow/landing.asks", laid_prow_landing_asks)], narrowed := true }
def LandingEasierUptoSaid : Prop := landingEasierUptoRow.holds Tryd.pinned (OpenSpec.upto landingEasierSpec)

/-- 'prowlaw02.LandingHigher', WHERE WHAT IT READS IS OF BULK AT MOST 1048576: true; the input reads as it did. -/
def landingHigherUptoRow : OpenClaim := { program := "ytkbmpkdflgimmaadoor", sum := "b251d07efd02d325c3a9640571478c1e25b0c68e917844c381df9fcd28ea3b7b", func := "prow/prowlaw02.LandingHigher", spec := "landingHigher", unfollowed := true, recurses := true, named := ["prow/landing.nowhere", "prow/landing.unknown", "prow/landing.asks"], plainKeys := false, apart := false, laid := [("prow/landing.nowhere", laid_prow_landing_nowhere), ("prow/landing.unknown", laid_prow_landing_unknown), ("prow/landing.asks", laid_prow_landing_asks)], narrowed := true }
def LandingHigherUptoSaid : Prop := landingHigherUptoRow.holds Tryd.pinned (OpenSpec.upto landingHigherSpec)

/-- 'prowlaw02.LandingKnown', WHERE WHAT IT READS IS OF BULK AT MOST 1048576: true; the input reads as it did. -/
def landingKnownUptoRow : OpenClaim := { program := "ytkbmpkdflgimmaadoor", sum := "b251d07efd02d325c3a9640571478c1e25b0c68e917844c381df9fcd28ea3b7b", func := "prow/prowlaw02.LandingKnown", spec := "landingKnown", unfollowed := true, recurses := true, named := ["prow/landing.nowhere", "prow/landing.unknown", "prow/landing.asks"], plainKeys := false, apart := false, laid := [("prow/landing.nowhere", laid_prow_landing_nowhere), ("prow/landing.unknown", laid_prow_landing_unknown), ("prow/landing.asks", laid_prow_landing_asks)], narrowed := true }
def LandingKnownUptoSaid : Prop := landingKnownUptoRow.holds Tryd.pinned (OpenSpec.upto landingKnownSpec)

end Rows
end Go.Proofs.YtkbmpkdflgimmaaDoor
