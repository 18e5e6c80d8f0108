/-
  DERIVED. GIVEN WITH THE SEED: THE CARDS: each row of YtobjafpfbbgnhaaDoorRows.lean that lists a variable, with what it lists TIED to the program's text (the seventh form; the later family's looks); each row that meets fmt, with fmt's text TOLD by the authors' own Lean function (tested against real Go, not proved from fmt's source: count such statements apart). THE CARD IS WHAT COUNTS. Prove the row's statement (the work); the ties are given (YtobjafpfbbgnhaaDoorTie.lean); close each card by the builder's one call (the guide's Derived/Test/ToyasCard.lean, 'card_holds'). Laid BY PROGRAM, IN A SANDBOX (cutbox-door.mjs). By AI agents, Wed Nov 11 2026. No macro, syntax, notation, axiom, sorry.
-/
import Derived.Test.YtobjafpfbbgnhaaDoorRows
import GoSem.ClaimSeven
namespace Go.Proofs.YtobjafpfbbgnhaaDoor
namespace Rows

/-- THE TIED CARD OF 'laws.FnExactPiecesText'. -/
def fnExactPiecesTextCard : Claim7 := { stood := { row := fnExactPiecesTextRow, standIns := [], harness := (true, "b68f20e94335cb7892fb5d7eea74d898095a34bf84dfe5d210b0b1d58e933351"), looks := true }, kinds := [], alts := [], laidByText := true, laidKinds := [.data, .data, .data], laidTests := true, laidLooks := .later }
def FnExactPiecesTextCardSaid : Prop := Claim7.holds Tryd.pinned (.plain (OpenSpec.ofChange fnExactPiecesTextSpec)) fnExactPiecesTextCard

/-- THE TIED CARD OF 'laws.FnExactBoxesText'. -/
def fnExactBoxesTextCard : Claim7 := { stood := { row := fnExactBoxesTextRow, standIns := [], harness := (true, "b68f20e94335cb7892fb5d7eea74d898095a34bf84dfe5d210b0b1d58e933351"), looks := true }, kinds := [], alts := [], laidByText := true, laidKinds := [.data, .data, .data], laidTests := true, laidLooks := .later }
def FnExactBoxesTextCardSaid : Prop := Claim7.holds Tryd.pinned (.plain (OpenSpec.ofChange fnExactBoxesTextSpec)) fnExactBoxesTextCard

/-- THE TIED CARD OF 'laws.FnExactParsePieces'. -/
def fnExactParsePiecesCard : Claim7 := { stood := { row := fnExactParsePiecesRow, standIns := [], harness := (true, "b68f20e94335cb7892fb5d7eea74d898095a34bf84dfe5d210b0b1d58e933351"), looks := true }, kinds := [], alts := [], laidByText := true, laidKinds := [.data, .data, .data, .sentinel, .sentinel], laidTests := true, laidLooks := .later }
def FnExactParsePiecesCardSaid : Prop := Claim7.holds Tryd.pinned (.plain (OpenSpec.ofChange fnExactParsePiecesSpec)) fnExactParsePiecesCard

/-- THE TIED CARD OF 'laws.FnExactParseBoxes'. -/
def fnExactParseBoxesCard : Claim7 := { stood := { row := fnExactParseBoxesRow, standIns := [], harness := (true, "b68f20e94335cb7892fb5d7eea74d898095a34bf84dfe5d210b0b1d58e933351"), looks := true }, kinds := [], alts := [], laidByText := true, laidKinds := [.data, .data, .data, .sentinel, .sentinel], laidTests := true, laidLooks := .later }
def FnExactParseBoxesCardSaid : Prop := Claim7.holds Tryd.pinned (.plain (OpenSpec.ofChange fnExactParseBoxesSpec)) fnExactParseBoxesCard

/-- THE SECOND FORM's CARD OF 'laws.FnExactPiecesText'. -/
def fnExactPiecesTextUptoCard : Claim7 := { stood := { row := fnExactPiecesTextUptoRow, standIns := [], harness := (true, "b68f20e94335cb7892fb5d7eea74d898095a34bf84dfe5d210b0b1d58e933351"), looks := true }, kinds := [], alts := [], laidByText := true, laidKinds := [.data, .data, .data], laidTests := true, laidLooks := .later }
def FnExactPiecesTextUptoCardSaid : Prop := Claim7.holds Tryd.pinned (.plain (OpenSpec.upto fnExactPiecesTextSpec)) fnExactPiecesTextUptoCard

/-- THE SECOND FORM's CARD OF 'laws.FnExactBoxesText'. -/
def fnExactBoxesTextUptoCard : Claim7 := { stood := { row := fnExactBoxesTextUptoRow, standIns := [], harness := (true, "b68f20e94335cb7892fb5d7eea74d898095a34bf84dfe5d210b0b1d58e933351"), looks := true }, kinds := [], alts := [], laidByText := true, laidKinds := [.data, .data, .data], laidTests := true, laidLooks := .later }
def FnExactBoxesTextUptoCardSaid : Prop := Claim7.holds Tryd.pinned (.plain (OpenSpec.upto fnExactBoxesTextSpec)) fnExactBoxesTextUptoCard

/-- THE SECOND FORM's CARD OF 'laws.FnExactParsePieces'. -/
def fnExactParsePiecesUptoCard : Claim7 := { stood := { row := fnExactParsePiecesUptoRow, standIns := [], harness := (true, "b68f20e94335cb7892fb5d7eea74d898095a34bf84dfe5d210b0b1d58e933351"), looks := true }, kinds := [], alts := [], laidByText := true, laidKinds := [.data, .data, .data, .sentinel, .sentinel], laidTests := true, laidLooks := .later }
def FnExactParsePiecesUptoCardSaid : Prop := Claim7.holds Tryd.pinned (.plain (OpenSpec.upto fnExactParsePiecesSpec)) fnExactParsePiecesUptoCard

/-- THE SECOND FORM's CARD OF 'laws.FnExactParseBoxes'. -/
def fnExactParseBoxesUptoCard : Claim7 := { stood := { row := fnExactParseBoxesUptoRow, standIns := [], harness := (true, "b68f20e94335cb7892fb5d7eea74d898095a34bf84dfe5d210b0b1d58e933351"), looks := true }, kinds := [], alts := [], laidByText := true, laidKinds := [.data, .data, .data, .sentinel, .sentinel], laidTests := true, laidLooks := .later }
def FnExactParseBoxesUptoCardSaid : Prop := Claim7.holds Tryd.pinned (.plain (OpenSpec.upto fnExactParseBoxesSpec)) fnExactParseBoxesUptoCard
end Rows
end Go.Proofs.YtobjafpfbbgnhaaDoor
