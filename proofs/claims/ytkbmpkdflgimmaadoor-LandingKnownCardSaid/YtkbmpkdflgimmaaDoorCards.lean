/-
  DERIVED. GIVEN WITH THE SEED: THE CARDS: each row of YtkbmpkdflgimmaaDoorRows.lean that lists a variable, with what it lists TIED to the program's text (the seventh form; the later family's looks); each row that meets fmt, with fmt's text TOLD by the authors' own Lean function (tested against real Go, not proved from fmt's source: count such statements apart). THE CARD IS WHAT COUNTS. Prove the row's statement (the work); the ties are given (YtkbmpkdflgimmaaDoorTie.lean); close each card by the builder's one call (the guide's Derived/Test/ToyasCard.lean, 'card_holds'). Laid BY PROGRAM, IN A SANDBOX (cutbox-door.mjs). By AI agents, Wed Nov 11 2026. No macro, syntax, notation, axiom, sorry.
-/
import Derived.Test.YtkbmpkdflgimmaaDoorRows
import GoSem.ClaimSeven
namespace Go.Proofs.YtkbmpkdflgimmaaDoor
namespace Rows

/-- THE TIED CARD OF 'prowlaw02.LandingHeights'. -/
def landingHeightsCard : Claim7 := { stood := { row := landingHeightsRow, standIns := [], harness := (true, "44ace60c4466708b1b6a50e7092c4bc41635e3f74c4522c9ad30c58f305fdfe7"), looks := false }, kinds := [], alts := [], laidByText := true, laidKinds := [.data, .data, .funcs], laidTests := true, laidLooks := .later }
def LandingHeightsCardSaid : Prop := Claim7.holds Tryd.pinned (.plain (OpenSpec.ofChange landingHeightsSpec)) landingHeightsCard

/-- THE TIED CARD OF 'prowlaw02.LandingLands'. -/
def landingLandsCard : Claim7 := { stood := { row := landingLandsRow, standIns := [], harness := (true, "44ace60c4466708b1b6a50e7092c4bc41635e3f74c4522c9ad30c58f305fdfe7"), looks := false }, kinds := [], alts := [], laidByText := true, laidKinds := [.data, .data, .funcs], laidTests := true, laidLooks := .later }
def LandingLandsCardSaid : Prop := Claim7.holds Tryd.pinned (.plain (OpenSpec.ofChange landingLandsSpec)) landingLandsCard

/-- THE TIED CARD OF 'prowlaw02.LandingFirsts'. -/
def landingFirstsCard : Claim7 := { stood := { row := landingFirstsRow, standIns := [], harness := (true, "44ace60c4466708b1b6a50e7092c4bc41635e3f74c4522c9ad30c58f305fdfe7"), looks := false }, kinds := [], alts := [], laidByText := true, laidKinds := [.data, .data, .funcs], laidTests := true, laidLooks := .later }
def LandingFirstsCardSaid : Prop := Claim7.holds Tryd.pinned (.plain (OpenSpec.ofChange landingFirstsSpec)) landingFirstsCard

/-- THE TIED CARD OF 'prowlaw02.LandingTrue'. -/
def landingTrueCard : Claim7 := { stood := { row := landingTrueRow, standIns := [], harness := (true, "44ace60c4466708b1b6a50e7092c4bc41635e3f74c4522c9ad30c58f305fdfe7"), looks := false }, kinds := [], alts := [], laidByText := true, laidKinds := [.data, .data, .funcs], laidTests := true, laidLooks := .later }
def LandingTrueCardSaid : Prop := Claim7.holds Tryd.pinned (.plain (OpenSpec.ofChange landingTrueSpec)) landingTrueCard

/-- THE TIED CARD OF 'prowlaw02.LandingEnds'. -/
def landingEndsCard : Claim7 := { stood := { row := landingEndsRow, standIns := [], harness := (true, "44ace60c4466708b1b6a50e7092c4bc41635e3f74c4522c9ad30c58f305fdfe7"), looks := false }, kinds := [], alts := [], laidByText := true, laidKinds := [.data, .data, .funcs], laidTests := true, laidLooks := .later }
def LandingEndsCardSaid : Prop := Claim7.holds Tryd.pinned (.plain (OpenSpec.ofChange landingEndsSpec)) landingEndsCard

/-- THE TIED CARD OF 'prowlaw02.LandingMore'. -/
def landingMoreCard : Claim7 := { stood := { row := landingMoreRow, standIns := [], harness := (true, "44ace60c4466708b1b6a50e7092c4bc41635e3f74c4522c9ad30c58f305fdfe7"), looks := false }, kinds := [], alts := [], laidByText := true, laidKinds := [.data, .data, .funcs], laidTests := true, laidLooks := .later }
def LandingMoreCardSaid : Prop := Claim7.holds Tryd.pinned (.plain (OpenSpec.ofChange landingMoreSpec)) landingMoreCard

/-- THE TIED CARD OF 'prowlaw02.LandingMost'. -/
def landingMostCard : Claim7 := { stood := { row := landingMostRow, standIns := [], harness := (true, "44ace60c4466708b1b6a50e7092c4bc41635e3f74c4522c9ad30c58f305fdfe7"), looks := false }, kinds := [], alts := [], laidByText := true, laidKinds := [.data, .data, .funcs], laidTests := true, laidLooks := .later }
def LandingMostCardSaid : Prop := Claim7.holds Tryd.pinned (.plain (OpenSpec.ofChange landingMostSpec)) landingMostCard

/-- THE TIED CARD OF 'prowlaw02.LandingFirst'. -/
def landingFirstCard : Claim7 := { stood := { row := landingFirstRow, standIns := [], harness := (true, "44ace60c4466708b1b6a50e7092c4bc41635e3f74c4522c9ad30c58f305fdfe7"), looks := false }, kinds := [], alts := [], laidByText := true, laidKinds := [.data, .data, .funcs], laidTests := true, laidLooks := .later }
def LandingFirstCardSaid : Prop := Claim7.holds Tryd.pinned (.plain (OpenSpec.ofChange landingFirstSpec)) landingFirstCard

/-- THE TIED CARD OF 'prowlaw02.LandingWrong'. -/
def landingWrongCard : Claim7 := { stood := { row := landingWrongRow, standIns := [], harness := (true, "44ace60c4466708b1b6a50e7092c4bc41635e3f74c4522c9ad30c58f305fdfe7"), looks := false }, kinds := [], alts := [], laidByText := true, laidKinds := [.data, .data, .funcs], laidTests := true, laidLooks := .later }
def LandingWrongCardSaid : Prop := Claim7.holds Tryd.pinned (.plain (OpenSpec.ofChange landingWrongSpec)) landingWrongCard

/-- THE TIED CARD OF 'prowlaw02.LandingEasier'. -/
def landingEasierCard : Claim7 := { stood := { row := landingEasierRow, standIns := [], harness := (true, "44ace60c4466708b1b6a50e7092c4bc41635e3f74c4522c9ad30c58f305fdfe7"), looks := false }, kinds := [], alts := [], laidByText := true, laidKinds := [.data, .data, .funcs], laidTests := true, laidLooks := .later }
def LandingEasierCardSaid : Prop := Claim7.holds Tryd.pinned (.plain (OpenSpec.ofChange landingEasierSpec)) landingEasierCard

/-- THE TIED CARD OF 'prowlaw02.LandingHigher'. -/
def landingHigherCard : Claim7 := { stood := { row := landingHigherRow, standIns := [], harness := (true, "44ace60c4466708b1b6a50e7092c4bc41635e3f74c4522c9ad30c58f305fdfe7"), looks := false }, kinds := [], alts := [], laidByText := true, laidKinds := [.data, .data, .funcs], laidTests := true, laidLooks := .later }
def LandingHigherCardSaid : Prop := Claim7.holds Tryd.pinned (.plain (OpenSpec.ofChange landingHigherSpec)) landingHigherCard

/-- THE TIED CARD OF 'prowlaw02.LandingKnown'. -/
def landingKnownCard : Claim7 := { stood := { row := landingKnownRow, standIns := [], harness := (true, "44ace60c4466708b1b6a50e7092c4bc41635e3f74c4522c9ad30c58f305fdfe7"), looks := false }, kinds := [], alts := [], laidByText := true, laidKinds := [.data, .data, .funcs], laidTests := true, laidLooks := .later }
def LandingKnownCardSaid : Prop := Claim7.holds Tryd.pinned (.plain (OpenSpec.ofChange landingKnownSpec)) landingKnownCard

/-- THE SECOND FORM's CARD OF 'prowlaw02.LandingHeights'. -/
def landingHeightsUptoCard : Claim7 := { stood := { row := landingHeightsUptoRow, standIns := [], harness := (true, "44ace60c4466708b1b6a50e7092c4bc41635e3f74c4522c9ad30c58f305fdfe7"), looks := false }, kinds := [], alts := [], laidByText := true, laidKinds := [.data, .data, .funcs], laidTests := true, laidLooks := .later }
def LandingHeightsUptoCardSaid : Prop := Claim7.holds Tryd.pinned (.plain (OpenSpec.upto landingHeightsSpec)) landingHeightsUptoCard

/-- THE SECOND FORM's CARD OF 'prowlaw02.LandingLands'. -/
def landingLandsUptoCard : Claim7 := { stood := { row := landingLandsUptoRow, standIns := [], harness := (true, "44ace60c4466708b1b6a50e7092c4bc41635e3f74c4522c9ad30c58f305fdfe7"), looks := false }, kinds := [], alts := [], laidByText := true, laidKinds := [.data, .data, .funcs], laidTests := true, laidLooks := .later }
def LandingLandsUptoCardSaid : Prop := Claim7.holds Tryd.pinned (.plain (OpenSpec.upto landingLandsSpec)) landingLandsUptoCard

/-- THE SECOND FORM's CARD OF 'prowlaw02.LandingFirsts'. -/
def landingFirstsUptoCard : Claim7 := { stood := { row := landingFirstsUptoRow, standIns := [], harness := (true, "44ace60c4466708b1b6a50e7092c4bc41635e3f74c4522c9ad30c58f305fdfe7"), looks := false }, kinds := [], alts := [], laidByText := true, laidKinds := [.data, .data, .funcs], laidTests := true, laidLooks := .later }
def LandingFirstsUptoCardSaid : Prop := Claim7.holds Tryd.pinned (.plain (OpenSpec.upto landingFirstsSpec)) landingFirstsUptoCard

/-- THE SECOND FORM's CARD OF 'prowlaw02.LandingTrue'. -/
def landingTrueUptoCard : Claim7 := { stood := { row := landingTrueUptoRow, standIns := [], harness := (true, "44ace60c4466708b1b6a50e7092c4bc41635e3f74c4522c9ad30c58f305fdfe7"), looks := false }, kinds := [], alts := [], laidByText := true, laidKinds := [.data, .data, .funcs], laidTests := true, laidLooks := .later }
def LandingTrueUptoCardSaid : Prop := Claim7.holds Tryd.pinned (.plain (OpenSpec.upto landingTrueSpec)) landingTrueUptoCard

/-- THE SECOND FORM's CARD OF 'prowlaw02.LandingEnds'. -/
def landingEndsUptoCard : Claim7 := { stood := { row := landingEndsUptoRow, standIns := [], harness := (true, "44ace60c4466708b1b6a50e7092c4bc41635e3f74c4522c9ad30c58f305fdfe7"), looks := false }, kinds := [], alts := [], laidByText := true, laidKinds := [.data, .data, .funcs], laidTests := true, laidLooks := .later }
def LandingEndsUptoCardSaid : Prop := Claim7.holds Tryd.pinned (.plain (OpenSpec.upto landingEndsSpec)) landingEndsUptoCard

/-- THE SECOND FORM's CARD OF 'prowlaw02.LandingMore'. -/
def landingMoreUptoCard : Claim7 := { stood := { row := landingMoreUptoRow, standIns := [], harness := (true, "44ace60c4466708b1b6a50e7092c4bc41635e3f74c4522c9ad30c58f305fdfe7"), looks := false }, kinds := [], alts := [], laidByText := true, laidKinds := [.data, .data, .funcs], laidTests := true, laidLooks := .later }
def LandingMoreUptoCardSaid : Prop := Claim7.holds Tryd.pinned (.plain (OpenSpec.upto landingMoreSpec)) landingMoreUptoCard

/-- THE SECOND FORM's CARD OF 'prowlaw02.LandingMost'. -/
def landingMostUptoCard : Claim7 := { stood := { row := landingMostUptoRow, standIns := [], harness := (true, "44ace60c4466708b1b6a50e7092c4bc41635e3f74c4522c9ad30c58f305fdfe7"), looks := false }, kinds := [], alts := [], laidByText := true, laidKinds := [.data, .data, .funcs], laidTests := true, laidLooks := .later }
def LandingMostUptoCardSaid : Prop := Claim7.holds Tryd.pinned (.plain (OpenSpec.upto landingMostSpec)) landingMostUptoCard

/-- THE SECOND FORM's CARD OF 'prowlaw02.LandingFirst'. -/
def landingFirstUptoCard : Claim7 := { stood := { row := landingFirstUptoRow, standIns := [], harness := (true, "44ace60c4466708b1b6a50e7092c4bc41635e3f74c4522c9ad30c58f305fdfe7"), looks := false }, kinds := [], alts := [], laidByText := true, laidKinds := [.data, .data, .funcs], laidTests := true, laidLooks := .later }
def LandingFirstUptoCardSaid : Prop := Claim7.holds Tryd.pinned (.plain (OpenSpec.upto landingFirstSpec)) landingFirstUptoCard

/-- THE SECOND FORM's CARD OF 'prowlaw02.LandingWrong'. -/
def landingWrongUptoCard : Claim7 := { stood := { row := landingWrongUptoRow, standIns := [], harness := (true, "44ace60c4466708b1b6a50e7092c4bc41635e3f74c4522c9ad30c58f305fdfe7"), looks := false }, kinds := [], alts := [], laidByText := true, laidKinds := [.data, .data, .funcs], laidTests := true, laidLooks := .later }
def LandingWrongUptoCardSaid : Prop := Claim7.holds Tryd.pinned (.plain (OpenSpec.upto landingWrongSpec)) landingWrongUptoCard

/-- THE SECOND FORM's CARD OF 'prowlaw02.LandingEasier'. -/
def landingEasierUptoCard : Claim7 := { stood := { row := landingEasierUptoRow, standIns := [], harness := (true, "44ace60c4466708b1b6a50e7092c4bc41635e3f74c4522c9ad30c58f305fdfe7"), looks := false }, kinds := [], alts := [], laidByText := true, laidKinds := [.data, .data, .funcs], laidTests := true, laidLooks := .later }
def LandingEasierUptoCardSaid : Prop := Claim7.holds Tryd.pinned (.plain (OpenSpec.upto landingEasierSpec)) landingEasierUptoCard

/-- THE SECOND FORM's CARD OF 'prowlaw02.LandingHigher'. -/
def landingHigherUptoCard : Claim7 := { stood := { row := landingHigherUptoRow, standIns := [], harness := (true, "44ace60c4466708b1b6a50e7092c4bc41635e3f74c4522c9ad30c58f305fdfe7"), looks := false }, kinds := [], alts := [], laidByText := true, laidKinds := [.data, .data, .funcs], laidTests := true, laidLooks := .later }
def LandingHigherUptoCardSaid : Prop := Claim7.holds Tryd.pinned (.plain (OpenSpec.upto landingHigherSpec)) landingHigherUptoCard

/-- THE SECOND FORM's CARD OF 'prowlaw02.LandingKnown'. -/
def landingKnownUptoCard : Claim7 := { stood := { row := landingKnownUptoRow, standIns := [], harness := (true, "44ace60c4466708b1b6a50e7092c4bc41635e3f74c4522c9ad30c58f305fdfe7"), looks := false }, kinds := [], alts := [], laidByText := true, laidKinds := [.data, .data, .funcs], laidTests := true, laidLooks := .later }
def LandingKnownUptoCardSaid : Prop := Claim7.holds Tryd.pinned (.plain (OpenSpec.upto landingKnownSpec)) landingKnownUptoCard
end Rows
end Go.Proofs.YtkbmpkdflgimmaaDoor
