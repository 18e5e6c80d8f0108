/-
  DERIVED. GIVEN WITH THE SEED: THE CARDS: each row of YtoimgbcbmbpfaaaDoorRows.lean that lists a variable, with what it lists TIED to the program's text (the seventh form; the later family's looks); each row that meets fmt, with fmt's text TOLD by the authors' own Lean function (tested against real Go, not proved from fmt's source: count such statements apart). THE CARD IS WHAT COUNTS. Prove the row's statement (the work); the ties are given (YtoimgbcbmbpfaaaDoorTie.lean); close each card by the builder's one call (the guide's Derived/Test/ToyasCard.lean, 'card_holds'). Laid BY PROGRAM, IN A SANDBOX (cutbox-door.mjs). By AI agents, Wed Nov 11 2026. No macro, syntax, notation, axiom, sorry.
-/
import Derived.Test.YtoimgbcbmbpfaaaDoorRows
import GoSem.ClaimSeven
namespace Go.Proofs.YtoimgbcbmbpfaaaDoor
namespace Rows

/-- THE TIED CARD OF 'laws.FnExactIsLoading'. -/
def fnExactIsLoadingCard : Claim7 := { stood := { row := fnExactIsLoadingRow, standIns := [], harness := (true, "3978bbde3c10e0e7ca40ccabd1115b1b62e73b6e243adc293ba9cc23a58823ec"), looks := false }, kinds := [], alts := [], laidByText := true, laidKinds := [.data, .pinned], laidTests := true, laidLooks := .later }
def FnExactIsLoadingCardSaid : Prop := Claim7.holds Tryd.pinned (.plain (OpenSpec.ofChange fnExactIsLoadingSpec)) fnExactIsLoadingCard

/-- THE TIED CARD OF 'laws.FnExactFirstServed'. -/
def fnExactFirstServedCard : Claim7 := { stood := { row := fnExactFirstServedRow, standIns := [], harness := (true, "3978bbde3c10e0e7ca40ccabd1115b1b62e73b6e243adc293ba9cc23a58823ec"), looks := false }, kinds := [], alts := [], laidByText := true, laidKinds := [.data, .pinned], laidTests := true, laidLooks := .later }
def FnExactFirstServedCardSaid : Prop := Claim7.holds Tryd.pinned (.plain (OpenSpec.ofChange fnExactFirstServedSpec)) fnExactFirstServedCard

/-- THE TIED CARD OF 'laws.FnExactCountLoadings'. -/
def fnExactCountLoadingsCard : Claim7 := { stood := { row := fnExactCountLoadingsRow, standIns := [], harness := (true, "3978bbde3c10e0e7ca40ccabd1115b1b62e73b6e243adc293ba9cc23a58823ec"), looks := false }, kinds := [], alts := [], laidByText := true, laidKinds := [.data, .pinned], laidTests := true, laidLooks := .later }
def FnExactCountLoadingsCardSaid : Prop := Claim7.holds Tryd.pinned (.plain (OpenSpec.ofChange fnExactCountLoadingsSpec)) fnExactCountLoadingsCard

/-- THE TIED CARD OF 'laws.FnExactIsTour'. -/
def fnExactIsTourCard : Claim7 := { stood := { row := fnExactIsTourRow, standIns := [], harness := (true, "3978bbde3c10e0e7ca40ccabd1115b1b62e73b6e243adc293ba9cc23a58823ec"), looks := false }, kinds := [], alts := [], laidByText := true, laidKinds := [.data, .pinned], laidTests := true, laidLooks := .later }
def FnExactIsTourCardSaid : Prop := Claim7.holds Tryd.pinned (.plain (OpenSpec.ofChange fnExactIsTourSpec)) fnExactIsTourCard

/-- THE TIED CARD OF 'laws.FnExactFewestPlaces'. -/
def fnExactFewestPlacesCard : Claim7 := { stood := { row := fnExactFewestPlacesRow, standIns := [], harness := (true, "3978bbde3c10e0e7ca40ccabd1115b1b62e73b6e243adc293ba9cc23a58823ec"), looks := false }, kinds := [], alts := [], laidByText := true, laidKinds := [.data, .pinned], laidTests := true, laidLooks := .later }
def FnExactFewestPlacesCardSaid : Prop := Claim7.holds Tryd.pinned (.plain (OpenSpec.ofChange fnExactFewestPlacesSpec)) fnExactFewestPlacesCard

/-- THE TIED CARD OF 'laws.FnExactStopsOf'. -/
def fnExactStopsOfCard : Claim7 := { stood := { row := fnExactStopsOfRow, standIns := [], harness := (true, "3978bbde3c10e0e7ca40ccabd1115b1b62e73b6e243adc293ba9cc23a58823ec"), looks := false }, kinds := [], alts := [], laidByText := true, laidKinds := [.data, .pinned], laidTests := true, laidLooks := .later }
def FnExactStopsOfCardSaid : Prop := Claim7.holds Tryd.pinned (.plain (OpenSpec.ofChange fnExactStopsOfSpec)) fnExactStopsOfCard

/-- THE TIED CARD OF 'laws.FnExactFixTour'. -/
def fnExactFixTourCard : Claim7 := { stood := { row := fnExactFixTourRow, standIns := [], harness := (true, "3978bbde3c10e0e7ca40ccabd1115b1b62e73b6e243adc293ba9cc23a58823ec"), looks := false }, kinds := [], alts := [], laidByText := true, laidKinds := [.data, .pinned], laidTests := true, laidLooks := .later }
def FnExactFixTourCardSaid : Prop := Claim7.holds Tryd.pinned (.plain (OpenSpec.ofChange fnExactFixTourSpec)) fnExactFixTourCard

/-- THE TIED CARD OF 'laws.FnExactPlacesOfBoxes'. -/
def fnExactPlacesOfBoxesCard : Claim7 := { stood := { row := fnExactPlacesOfBoxesRow, standIns := [], harness := (true, "3978bbde3c10e0e7ca40ccabd1115b1b62e73b6e243adc293ba9cc23a58823ec"), looks := false }, kinds := [], alts := [], laidByText := true, laidKinds := [.data, .pinned], laidTests := true, laidLooks := .later }
def FnExactPlacesOfBoxesCardSaid : Prop := Claim7.holds Tryd.pinned (.plain (OpenSpec.ofChange fnExactPlacesOfBoxesSpec)) fnExactPlacesOfBoxesCard

/-- THE TIED CARD OF 'laws.FnExactIsPlacing'. -/
def fnExactIsPlacingCard : Claim7 := { stood := { row := fnExactIsPlacingRow, standIns := [], harness := (true, "3978bbde3c10e0e7ca40ccabd1115b1b62e73b6e243adc293ba9cc23a58823ec"), looks := false }, kinds := [], alts := [], laidByText := true, laidKinds := [.data, .pinned], laidTests := true, laidLooks := .later }
def FnExactIsPlacingCardSaid : Prop := Claim7.holds Tryd.pinned (.plain (OpenSpec.ofChange fnExactIsPlacingSpec)) fnExactIsPlacingCard

/-- THE TIED CARD OF 'laws.FnExactIsServed'. -/
def fnExactIsServedCard : Claim7 := { stood := { row := fnExactIsServedRow, standIns := [], harness := (true, "3978bbde3c10e0e7ca40ccabd1115b1b62e73b6e243adc293ba9cc23a58823ec"), looks := false }, kinds := [], alts := [], laidByText := true, laidKinds := [.data, .pinned], laidTests := true, laidLooks := .later }
def FnExactIsServedCardSaid : Prop := Claim7.holds Tryd.pinned (.plain (OpenSpec.ofChange fnExactIsServedSpec)) fnExactIsServedCard

/-- THE TIED CARD OF 'laws.FnExactOpenAfter'. -/
def fnExactOpenAfterCard : Claim7 := { stood := { row := fnExactOpenAfterRow, standIns := [], harness := (true, "3978bbde3c10e0e7ca40ccabd1115b1b62e73b6e243adc293ba9cc23a58823ec"), looks := false }, kinds := [], alts := [], laidByText := true, laidKinds := [.data, .pinned], laidTests := true, laidLooks := .later }
def FnExactOpenAfterCardSaid : Prop := Claim7.holds Tryd.pinned (.plain (OpenSpec.ofChange fnExactOpenAfterSpec)) fnExactOpenAfterCard

/-- THE TIED CARD OF 'laws.FnExactFullestOf'. -/
def fnExactFullestOfCard : Claim7 := { stood := { row := fnExactFullestOfRow, standIns := [], harness := (true, "3978bbde3c10e0e7ca40ccabd1115b1b62e73b6e243adc293ba9cc23a58823ec"), looks := false }, kinds := [], alts := [], laidByText := true, laidKinds := [.data, .pinned], laidTests := true, laidLooks := .later }
def FnExactFullestOfCardSaid : Prop := Claim7.holds Tryd.pinned (.plain (OpenSpec.ofChange fnExactFullestOfSpec)) fnExactFullestOfCard

/-- THE TIED CARD OF 'laws.FnExactBackTour'. -/
def fnExactBackTourCard : Claim7 := { stood := { row := fnExactBackTourRow, standIns := [], harness := (true, "3978bbde3c10e0e7ca40ccabd1115b1b62e73b6e243adc293ba9cc23a58823ec"), looks := false }, kinds := [], alts := [], laidByText := true, laidKinds := [.data, .pinned], laidTests := true, laidLooks := .later }
def FnExactBackTourCardSaid : Prop := Claim7.holds Tryd.pinned (.plain (OpenSpec.ofChange fnExactBackTourSpec)) fnExactBackTourCard

/-- THE SECOND FORM's CARD OF 'laws.FnExactIsLoading'. -/
def fnExactIsLoadingUptoCard : Claim7 := { stood := { row := fnExactIsLoadingUptoRow, standIns := [], harness := (true, "3978bbde3c10e0e7ca40ccabd1115b1b62e73b6e243adc293ba9cc23a58823ec"), looks := false }, kinds := [], alts := [], laidByText := true, laidKinds := [.data, .pinned], laidTests := true, laidLooks := .later }
def FnExactIsLoadingUptoCardSaid : Prop := Claim7.holds Tryd.pinned (.plain (OpenSpec.upto fnExactIsLoadingSpec)) fnExactIsLoadingUptoCard

/-- THE SECOND FORM's CARD OF 'laws.FnExactFirstServed'. -/
def fnExactFirstServedUptoCard : Claim7 := { stood := { row := fnExactFirstServedUptoRow, standIns := [], harness := (true, "3978bbde3c10e0e7ca40ccabd1115b1b62e73b6e243adc293ba9cc23a58823ec"), looks := false }, kinds := [], alts := [], laidByText := true, laidKinds := [.data, .pinned], laidTests := true, laidLooks := .later }
def FnExactFirstServedUptoCardSaid : Prop := Claim7.holds Tryd.pinned (.plain (OpenSpec.upto fnExactFirstServedSpec)) fnExactFirstServedUptoCard

/-- THE SECOND FORM's CARD OF 'laws.FnExactCountLoadings'. -/
def fnExactCountLoadingsUptoCard : Claim7 := { stood := { row := fnExactCountLoadingsUptoRow, standIns := [], harness := (true, "3978bbde3c10e0e7ca40ccabd1115b1b62e73b6e243adc293ba9cc23a58823ec"), looks := false }, kinds := [], alts := [], laidByText := true, laidKinds := [.data, .pinned], laidTests := true, laidLooks := .later }
def FnExactCountLoadingsUptoCardSaid : Prop := Claim7.holds Tryd.pinned (.plain (OpenSpec.upto fnExactCountLoadingsSpec)) fnExactCountLoadingsUptoCard

/-- THE SECOND FORM's CARD OF 'laws.FnExactIsTour'. -/
def fnExactIsTourUptoCard : Claim7 := { stood := { row := fnExactIsTourUptoRow, standIns := [], harness := (true, "3978bbde3c10e0e7ca40ccabd1115b1b62e73b6e243adc293ba9cc23a58823ec"), looks := false }, kinds := [], alts := [], laidByText := true, laidKinds := [.data, .pinned], laidTests := true, laidLooks := .later }
def FnExactIsTourUptoCardSaid : Prop := Claim7.holds Tryd.pinned (.plain (OpenSpec.upto fnExactIsTourSpec)) fnExactIsTourUptoCard

/-- THE SECOND FORM's CARD OF 'laws.FnExactFewestPlaces'. -/
def fnExactFewestPlacesUptoCard : Claim7 := { stood := { row := fnExactFewestPlacesUptoRow, standIns := [], harness := (true, "3978bbde3c10e0e7ca40ccabd1115b1b62e73b6e243adc293ba9cc23a58823ec"), looks := false }, kinds := [], alts := [], laidByText := true, laidKinds := [.data, .pinned], laidTests := true, laidLooks := .later }
def FnExactFewestPlacesUptoCardSaid : Prop := Claim7.holds Tryd.pinned (.plain (OpenSpec.upto fnExactFewestPlacesSpec)) fnExactFewestPlacesUptoCard

/-- THE SECOND FORM's CARD OF 'laws.FnExactStopsOf'. -/
def fnExactStopsOfUptoCard : Claim7 := { stood := { row := fnExactStopsOfUptoRow, standIns := [], harness := (true, "3978bbde3c10e0e7ca40ccabd1115b1b62e73b6e243adc293ba9cc23a58823ec"), looks := false }, kinds := [], alts := [], laidByText := true, laidKinds := [.data, .pinned], laidTests := true, laidLooks := .later }
def FnExactStopsOfUptoCardSaid : Prop := Claim7.holds Tryd.pinned (.plain (OpenSpec.upto fnExactStopsOfSpec)) fnExactStopsOfUptoCard

/-- THE SECOND FORM's CARD OF 'laws.FnExactFixTour'. -/
def fnExactFixTourUptoCard : Claim7 := { stood := { row := fnExactFixTourUptoRow, standIns := [], harness := (true, "3978bbde3c10e0e7ca40ccabd1115b1b62e73b6e243adc293ba9cc23a58823ec"), looks := false }, kinds := [], alts := [], laidByText := true, laidKinds := [.data, .pinned], laidTests := true, laidLooks := .later }
def FnExactFixTourUptoCardSaid : Prop := Claim7.holds Tryd.pinned (.plain (OpenSpec.upto fnExactFixTourSpec)) fnExactFixTourUptoCard

/-- THE SECOND FORM's CARD OF 'laws.FnExactPlacesOfBoxes'. -/
def fnExactPlacesOfBoxesUptoCard : Claim7 := { stood := { row := fnExactPlacesOfBoxesUptoRow, standIns := [], harness := (true, "3978bbde3c10e0e7ca40ccabd1115b1b62e73b6e243adc293ba9cc23a58823ec"), looks := false }, kinds := [], alts := [], laidByText := true, laidKinds := [.data, .pinned], laidTests := true, laidLooks := .later }
def FnExactPlacesOfBoxesUptoCardSaid : Prop := Claim7.holds Tryd.pinned (.plain (OpenSpec.upto fnExactPlacesOfBoxesSpec)) fnExactPlacesOfBoxesUptoCard

/-- THE SECOND FORM's CARD OF 'laws.FnExactIsPlacing'. -/
def fnExactIsPlacingUptoCard : Claim7 := { stood := { row := fnExactIsPlacingUptoRow, standIns := [], harness := (true, "3978bbde3c10e0e7ca40ccabd1115b1b62e73b6e243adc293ba9cc23a58823ec"), looks := false }, kinds := [], alts := [], laidByText := true, laidKinds := [.data, .pinned], laidTests := true, laidLooks := .later }
def FnExactIsPlacingUptoCardSaid : Prop := Claim7.holds Tryd.pinned (.plain (OpenSpec.upto fnExactIsPlacingSpec)) fnExactIsPlacingUptoCard

/-- THE SECOND FORM's CARD OF 'laws.FnExactIsServed'. -/
def fnExactIsServedUptoCard : Claim7 := { stood := { row := fnExactIsServedUptoRow, standIns := [], harness := (true, "3978bbde3c10e0e7ca40ccabd1115b1b62e73b6e243adc293ba9cc23a58823ec"), looks := false }, kinds := [], alts := [], laidByText := true, laidKinds := [.data, .pinned], laidTests := true, laidLooks := .later }
def FnExactIsServedUptoCardSaid : Prop := Claim7.holds Tryd.pinned (.plain (OpenSpec.upto fnExactIsServedSpec)) fnExactIsServedUptoCard

/-- THE SECOND FORM's CARD OF 'laws.FnExactOpenAfter'. -/
def fnExactOpenAfterUptoCard : Claim7 := { stood := { row := fnExactOpenAfterUptoRow, standIns := [], harness := (true, "3978bbde3c10e0e7ca40ccabd1115b1b62e73b6e243adc293ba9cc23a58823ec"), looks := false }, kinds := [], alts := [], laidByText := true, laidKinds := [.data, .pinned], laidTests := true, laidLooks := .later }
def FnExactOpenAfterUptoCardSaid : Prop := Claim7.holds Tryd.pinned (.plain (OpenSpec.upto fnExactOpenAfterSpec)) fnExactOpenAfterUptoCard

/-- THE SECOND FORM's CARD OF 'laws.FnExactFullestOf'. -/
def fnExactFullestOfUptoCard : Claim7 := { stood := { row := fnExactFullestOfUptoRow, standIns := [], harness := (true, "3978bbde3c10e0e7ca40ccabd1115b1b62e73b6e243adc293ba9cc23a58823ec"), looks := false }, kinds := [], alts := [], laidByText := true, laidKinds := [.data, .pinned], laidTests := true, laidLooks := .later }
def FnExactFullestOfUptoCardSaid : Prop := Claim7.holds Tryd.pinned (.plain (OpenSpec.upto fnExactFullestOfSpec)) fnExactFullestOfUptoCard

/-- THE SECOND FORM's CARD OF 'laws.FnExactBackTour'. -/
def fnExactBackTourUptoCard : Claim7 := { stood := { row := fnExactBackTourUptoRow, standIns := [], harness := (true, "3978bbde3c10e0e7ca40ccabd1115b1b62e73b6e243adc293ba9cc23a58823ec"), looks := false }, kinds := [], alts := [], laidByText := true, laidKinds := [.data, .pinned], laidTests := true, laidLooks := .later }
def FnExactBackTourUptoCardSaid : Prop := Claim7.holds Tryd.pinned (.plain (OpenSpec.upto fnExactBackTourSpec)) fnExactBackTourUptoCard
end Rows
end Go.Proofs.YtoimgbcbmbpfaaaDoor
