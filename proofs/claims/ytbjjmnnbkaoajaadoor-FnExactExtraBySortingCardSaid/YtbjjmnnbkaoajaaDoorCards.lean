/-
  DERIVED. GIVEN WITH THE SEED: THE CARDS: each row of YtbjjmnnbkaoajaaDoorRows.lean that lists a variable, with what it lists TIED to the program's text (the seventh form; the later family's looks); each row that meets fmt, with fmt's text TOLD by the authors' own Lean function (tested against real Go, not proved from fmt's source: count such statements apart). THE CARD IS WHAT COUNTS. Prove the row's statement (the work); the ties are given (YtbjjmnnbkaoajaaDoorTie.lean); close each card by the builder's one call (the guide's Derived/Test/ToyasCard.lean, 'card_holds'). Laid BY PROGRAM, IN A SANDBOX (cutbox-door.mjs). By AI agents, Wed Nov 11 2026. No macro, syntax, notation, axiom, sorry.
-/
import Derived.Test.YtbjjmnnbkaoajaaDoorRows
import GoSem.ClaimSeven
namespace Go.Proofs.YtbjjmnnbkaoajaaDoor
namespace Rows

/-- THE TIED CARD OF 'laws.FnExactAfterStop'. -/
def fnExactAfterStopCard : Claim7 := { stood := { row := fnExactAfterStopRow, standIns := [], harness := (true, "abe89c6eb07a7e5f93279585c6b49a799b2a65262f9bcc552429b10fd3ae22b0"), looks := false }, kinds := [], alts := [], laidByText := true, laidKinds := [.data, .pinned], laidTests := true, laidLooks := .later }
def FnExactAfterStopCardSaid : Prop := Claim7.holds Tryd.pinned (.plain (OpenSpec.ofChange fnExactAfterStopSpec)) fnExactAfterStopCard

/-- THE TIED CARD OF 'laws.FnExactExtraBySorting'. -/
def fnExactExtraBySortingCard : Claim7 := { stood := { row := fnExactExtraBySortingRow, standIns := [], harness := (true, "abe89c6eb07a7e5f93279585c6b49a799b2a65262f9bcc552429b10fd3ae22b0"), looks := false }, kinds := [], alts := [], laidByText := true, laidKinds := [.data, .pinned], laidTests := true, laidLooks := .later }
def FnExactExtraBySortingCardSaid : Prop := Claim7.holds Tryd.pinned (.plain (OpenSpec.ofChange fnExactExtraBySortingSpec)) fnExactExtraBySortingCard

/-- THE TIED CARD OF 'laws.FnExactExtraMoves'. -/
def fnExactExtraMovesCard : Claim7 := { stood := { row := fnExactExtraMovesRow, standIns := [], harness := (true, "abe89c6eb07a7e5f93279585c6b49a799b2a65262f9bcc552429b10fd3ae22b0"), looks := false }, kinds := [], alts := [], laidByText := true, laidKinds := [.data, .pinned], laidTests := true, laidLooks := .later }
def FnExactExtraMovesCardSaid : Prop := Claim7.holds Tryd.pinned (.plain (OpenSpec.ofChange fnExactExtraMovesSpec)) fnExactExtraMovesCard

/-- THE TIED CARD OF 'laws.FnExactBestLoading'. -/
def fnExactBestLoadingCard : Claim7 := { stood := { row := fnExactBestLoadingRow, standIns := [], harness := (true, "abe89c6eb07a7e5f93279585c6b49a799b2a65262f9bcc552429b10fd3ae22b0"), looks := false }, kinds := [], alts := [], laidByText := true, laidKinds := [.data, .pinned], laidTests := true, laidLooks := .later }
def FnExactBestLoadingCardSaid : Prop := Claim7.holds Tryd.pinned (.plain (OpenSpec.ofChange fnExactBestLoadingSpec)) fnExactBestLoadingCard

/-- THE TIED CARD OF 'laws.FnExactIsFreeLoading'. -/
def fnExactIsFreeLoadingCard : Claim7 := { stood := { row := fnExactIsFreeLoadingRow, standIns := [], harness := (true, "abe89c6eb07a7e5f93279585c6b49a799b2a65262f9bcc552429b10fd3ae22b0"), looks := false }, kinds := [], alts := [], laidByText := true, laidKinds := [.data, .pinned], laidTests := true, laidLooks := .later }
def FnExactIsFreeLoadingCardSaid : Prop := Claim7.holds Tryd.pinned (.plain (OpenSpec.ofChange fnExactIsFreeLoadingSpec)) fnExactIsFreeLoadingCard

/-- THE TIED CARD OF 'laws.FnExactCountFree'. -/
def fnExactCountFreeCard : Claim7 := { stood := { row := fnExactCountFreeRow, standIns := [], harness := (true, "abe89c6eb07a7e5f93279585c6b49a799b2a65262f9bcc552429b10fd3ae22b0"), looks := false }, kinds := [], alts := [], laidByText := true, laidKinds := [.data, .pinned], laidTests := true, laidLooks := .later }
def FnExactCountFreeCardSaid : Prop := Claim7.holds Tryd.pinned (.plain (OpenSpec.ofChange fnExactCountFreeSpec)) fnExactCountFreeCard

/-- THE SECOND FORM's CARD OF 'laws.FnExactAfterStop'. -/
def fnExactAfterStopUptoCard : Claim7 := { stood := { row := fnExactAfterStopUptoRow, standIns := [], harness := (true, "abe89c6eb07a7e5f93279585c6b49a799b2a65262f9bcc552429b10fd3ae22b0"), looks := false }, kinds := [], alts := [], laidByText := true, laidKinds := [.data, .pinned], laidTests := true, laidLooks := .later }
def FnExactAfterStopUptoCardSaid : Prop := Claim7.holds Tryd.pinned (.plain (OpenSpec.upto fnExactAfterStopSpec)) fnExactAfterStopUptoCard

/-- THE SECOND FORM's CARD OF 'laws.FnExactExtraBySorting'. -/
def fnExactExtraBySortingUptoCard : Claim7 := { stood := { row := fnExactExtraBySortingUptoRow, standIns := [], harness := (true, "abe89c6eb07a7e5f93279585c6b49a799b2a65262f9bcc552429b10fd3ae22b0"), looks := false }, kinds := [], alts := [], laidByText := true, laidKinds := [.data, .pinned], laidTests := true, laidLooks := .later }
def FnExactExtraBySortingUptoCardSaid : Prop := Claim7.holds Tryd.pinned (.plain (OpenSpec.upto fnExactExtraBySortingSpec)) fnExactExtraBySortingUptoCard

/-- THE SECOND FORM's CARD OF 'laws.FnExactExtraMoves'. -/
def fnExactExtraMovesUptoCard : Claim7 := { stood := { row := fnExactExtraMovesUptoRow, standIns := [], harness := (true, "abe89c6eb07a7e5f93279585c6b49a799b2a65262f9bcc552429b10fd3ae22b0"), looks := false }, kinds := [], alts := [], laidByText := true, laidKinds := [.data, .pinned], laidTests := true, laidLooks := .later }
def FnExactExtraMovesUptoCardSaid : Prop := Claim7.holds Tryd.pinned (.plain (OpenSpec.upto fnExactExtraMovesSpec)) fnExactExtraMovesUptoCard

/-- THE SECOND FORM's CARD OF 'laws.FnExactBestLoading'. -/
def fnExactBestLoadingUptoCard : Claim7 := { stood := { row := fnExactBestLoadingUptoRow, standIns := [], harness := (true, "abe89c6eb07a7e5f93279585c6b49a799b2a65262f9bcc552429b10fd3ae22b0"), looks := false }, kinds := [], alts := [], laidByText := true, laidKinds := [.data, .pinned], laidTests := true, laidLooks := .later }
def FnExactBestLoadingUptoCardSaid : Prop := Claim7.holds Tryd.pinned (.plain (OpenSpec.upto fnExactBestLoadingSpec)) fnExactBestLoadingUptoCard

/-- THE SECOND FORM's CARD OF 'laws.FnExactIsFreeLoading'. -/
def fnExactIsFreeLoadingUptoCard : Claim7 := { stood := { row := fnExactIsFreeLoadingUptoRow, standIns := [], harness := (true, "abe89c6eb07a7e5f93279585c6b49a799b2a65262f9bcc552429b10fd3ae22b0"), looks := false }, kinds := [], alts := [], laidByText := true, laidKinds := [.data, .pinned], laidTests := true, laidLooks := .later }
def FnExactIsFreeLoadingUptoCardSaid : Prop := Claim7.holds Tryd.pinned (.plain (OpenSpec.upto fnExactIsFreeLoadingSpec)) fnExactIsFreeLoadingUptoCard

/-- THE SECOND FORM's CARD OF 'laws.FnExactCountFree'. -/
def fnExactCountFreeUptoCard : Claim7 := { stood := { row := fnExactCountFreeUptoRow, standIns := [], harness := (true, "abe89c6eb07a7e5f93279585c6b49a799b2a65262f9bcc552429b10fd3ae22b0"), looks := false }, kinds := [], alts := [], laidByText := true, laidKinds := [.data, .pinned], laidTests := true, laidLooks := .later }
def FnExactCountFreeUptoCardSaid : Prop := Claim7.holds Tryd.pinned (.plain (OpenSpec.upto fnExactCountFreeSpec)) fnExactCountFreeUptoCard
end Rows
end Go.Proofs.YtbjjmnnbkaoajaaDoor
