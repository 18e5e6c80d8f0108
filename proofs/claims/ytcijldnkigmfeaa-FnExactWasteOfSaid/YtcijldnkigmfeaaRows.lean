/-
  No cell of these rows narrows 'for every input' (looked for: loops, veiled, ifaces, maps, wideKeys, modest, calm, conditions, laid).
  DERIVED. THE GIVEN ROWS OF THIS SEAT. 13 by the template 'for every input the law returns true; each argument reads behind the call as it read before'; 0 by the template 'total and deterministic' (their statements: YtcijldnkigmfeaaTotals.lean).
  GIVEN WITH THE SEED: the statements are not yours to turn. If you find one false, say at which input.
  Laid BY PROGRAM, IN A SANDBOX (cutbox-rows.mjs): the forced cells as the released guide's own fill.sh prints them over the translation 162dbffbfaf0c5bf… (all of the seat's roots in one cut). By AI agents, Wed Nov 11 2026. No macro, syntax, notation, axiom, sorry.
-/
import Derived.Test.YtcijldnkigmfeaaChecked
import GoSem.Claim
import GoSem.ClaimJoined
import GoSem.ClaimMapViews
import Derived.JoinedTies
import Derived.KernelRfl
namespace Go.Proofs.Ytcijldnkigmfeaa
/- THE CELL 'sum', in the pinned program and in every row, IS THE sha256 OF THE DUMP (.gsa) THAT YtcijldnkigmfeaaProg.lean LOADS. Nothing in Lean hashes anything: it is a label: what it is worth is what the hold of that sum in a sandbox is worth. -/
noncomputable def Try.pinned : Pinned := { name := "ytcijldnkigmfeaa", sum := "162dbffbfaf0c5bfe08e1067086b4c78932603f195e7df3d19c3603cc9cad318", checked := Try.checked }
namespace Rows
def none {H : Type} : Left H := { results := [], args := [] }

/-- 'laws.FnExactArePieces': WHATEVER THE INPUT: true; the input reads as it did. -/
def fnExactArePiecesSpec : ChangeSpec := { name := "fnExactArePieces", fn := fun _ => fun
  | [d] => { results := [.lit (.bool true)], args := [d] }
  | _ => none }
def fnExactArePiecesRow : OpenClaim := { program := "ytcijldnkigmfeaa", sum := "162dbffbfaf0c5bfe08e1067086b4c78932603f195e7df3d19c3603cc9cad318", func := "loop.example/g01334/laws.FnExactArePieces", spec := "fnExactArePieces", unfollowed := true, recurses := true, plainKeys := false, apart := false }
def FnExactArePiecesSaid : Prop := fnExactArePiecesRow.holds Try.pinned (OpenSpec.ofChange fnExactArePiecesSpec)

/-- ITS FALSE NEIGHBOUR: 'it returns false'. Refute it at one input. -/
def fnExactArePiecesWrong : ChangeSpec := { name := "fnExactArePieces", fn := fun _ => fun
  | [d] => { results := [.lit (.bool false)], args := [d] }
  | _ => none }
def FnExactArePiecesWrongFalsely : Prop := fnExactArePiecesRow.holds Try.pinned (OpenSpec.ofChange fnExactArePiecesWrong)

/-- 'laws.FnExactFewestSquares': WHATEVER THE INPUT: true; the input reads as it did. -/
def fnExactFewestSquaresSpec : ChangeSpec := { name := "fnExactFewestSquares", fn := fun _ => fun
  | [d1, d2] => { results := [.lit (.bool true)], args := [d1, d2] }
  | _ => none }
def fnExactFewestSquaresRow : OpenClaim := { program := "ytcijldnkigmfeaa", sum := "162dbffbfaf0c5bfe08e1067086b4c78932603f195e7df3d19c3603cc9cad318", func := "loop.example/g01334/laws.FnExactFewestSquares", spec := "fnExactFewestSquares", recurses := true, plainKeys := false, apart := false }
def FnExactFewestSquaresSaid : Prop := fnExactFewestSquaresRow.holds Try.pinned (OpenSpec.ofChange fnExactFewestSquaresSpec)

/-- ITS FALSE NEIGHBOUR: 'it returns false'. Refute it at one input. -/
def fnExactFewestSquaresWrong : ChangeSpec := { name := "fnExactFewestSquares", fn := fun _ => fun
  | [d1, d2] => { results := [.lit (.bool false)], args := [d1, d2] }
  | _ => none }
def FnExactFewestSquaresWrongFalsely : Prop := fnExactFewestSquaresRow.holds Try.pinned (OpenSpec.ofChange fnExactFewestSquaresWrong)

/-- 'laws.FnExactCutsToSquares': WHATEVER THE INPUT: true; the input reads as it did. -/
def fnExactCutsToSquaresSpec : ChangeSpec := { name := "fnExactCutsToSquares", fn := fun _ => fun
  | [d1, d2] => { results := [.lit (.bool true)], args := [d1, d2] }
  | _ => none }
def fnExactCutsToSquaresRow : OpenClaim := { program := "ytcijldnkigmfeaa", sum := "162dbffbfaf0c5bfe08e1067086b4c78932603f195e7df3d19c3603cc9cad318", func := "loop.example/g01334/laws.FnExactCutsToSquares", spec := "fnExactCutsToSquares", recurses := true, plainKeys := false, apart := false }
def FnExactCutsToSquaresSaid : Prop := fnExactCutsToSquaresRow.holds Try.pinned (OpenSpec.ofChange fnExactCutsToSquaresSpec)

/-- ITS FALSE NEIGHBOUR: 'it returns false'. Refute it at one input. -/
def fnExactCutsToSquaresWrong : ChangeSpec := { name := "fnExactCutsToSquares", fn := fun _ => fun
  | [d1, d2] => { results := [.lit (.bool false)], args := [d1, d2] }
  | _ => none }
def FnExactCutsToSquaresWrongFalsely : Prop := fnExactCutsToSquaresRow.holds Try.pinned (OpenSpec.ofChange fnExactCutsToSquaresWrong)

/-- 'laws.FnExactCountCuttings': WHATEVER THE INPUT: true; the input reads as it did. -/
def fnExactCountCuttingsSpec : ChangeSpec := { name := "fnExactCountCuttings", fn := fun _ => fun
  | [d1, d2] => { results := [.lit (.bool true)], args := [d1, d2] }
  | _ => none }
def fnExactCountCuttingsRow : OpenClaim := { program := "ytcijldnkigmfeaa", sum := "162dbffbfaf0c5bfe08e1067086b4c78932603f195e7df3d19c3603cc9cad318", func := "loop.example/g01334/laws.FnExactCountCuttings", spec := "fnExactCountCuttings", unfollowed := true, recurses := true, plainKeys := false, apart := false }
def FnExactCountCuttingsSaid : Prop := fnExactCountCuttingsRow.holds Try.pinned (OpenSpec.ofChange fnExactCountCuttingsSpec)

/-- ITS FALSE NEIGHBOUR: 'it returns false'. Refute it at one input. -/
def fnExactCountCuttingsWrong : ChangeSpec := { name := "fnExactCountCuttings", fn := fun _ => fun
  | [d1, d2] => { results := [.lit (.bool false)], args := [d1, d2] }
  | _ => none }
def FnExactCountCuttingsWrongFalsely : Prop := fnExactCountCuttingsRow.holds Try.pinned (OpenSpec.ofChange fnExactCountCuttingsWrong)

/-- 'laws.FnExactMostOfOne': WHATEVER THE INPUT: true; the input reads as it did. -/
def fnExactMostOfOneSpec : ChangeSpec := { name := "fnExactMostOfOne", fn := fun _ => fun
  | [d1, d2, d3, d4] => { results := [.lit (.bool true)], args := [d1, d2, d3, d4] }
  | _ => none }
def fnExactMostOfOneRow : OpenClaim := { program := "ytcijldnkigmfeaa", sum := "162dbffbfaf0c5bfe08e1067086b4c78932603f195e7df3d19c3603cc9cad318", func := "loop.example/g01334/laws.FnExactMostOfOne", spec := "fnExactMostOfOne", unfollowed := true, recurses := true, plainKeys := false, apart := false }
def FnExactMostOfOneSaid : Prop := fnExactMostOfOneRow.holds Try.pinned (OpenSpec.ofChange fnExactMostOfOneSpec)

/-- ITS FALSE NEIGHBOUR: 'it returns false'. Refute it at one input. -/
def fnExactMostOfOneWrong : ChangeSpec := { name := "fnExactMostOfOne", fn := fun _ => fun
  | [d1, d2, d3, d4] => { results := [.lit (.bool false)], args := [d1, d2, d3, d4] }
  | _ => none }
def FnExactMostOfOneWrongFalsely : Prop := fnExactMostOfOneRow.holds Try.pinned (OpenSpec.ofChange fnExactMostOfOneWrong)

/-- 'laws.FnExactTurnPieces': WHATEVER THE INPUT: true; the input reads as it did. -/
def fnExactTurnPiecesSpec : ChangeSpec := { name := "fnExactTurnPieces", fn := fun _ => fun
  | [d] => { results := [.lit (.bool true)], args := [d] }
  | _ => none }
def fnExactTurnPiecesRow : OpenClaim := { program := "ytcijldnkigmfeaa", sum := "162dbffbfaf0c5bfe08e1067086b4c78932603f195e7df3d19c3603cc9cad318", func := "loop.example/g01334/laws.FnExactTurnPieces", spec := "fnExactTurnPieces", unfollowed := true, recurses := true, plainKeys := false, apart := false }
def FnExactTurnPiecesSaid : Prop := fnExactTurnPiecesRow.holds Try.pinned (OpenSpec.ofChange fnExactTurnPiecesSpec)

/-- ITS FALSE NEIGHBOUR: 'it returns false'. Refute it at one input. -/
def fnExactTurnPiecesWrong : ChangeSpec := { name := "fnExactTurnPieces", fn := fun _ => fun
  | [d] => { results := [.lit (.bool false)], args := [d] }
  | _ => none }
def FnExactTurnPiecesWrongFalsely : Prop := fnExactTurnPiecesRow.holds Try.pinned (OpenSpec.ofChange fnExactTurnPiecesWrong)

/-- 'laws.FnExactBestValue': WHATEVER THE INPUT: true; the input reads as it did. -/
def fnExactBestValueSpec : ChangeSpec := { name := "fnExactBestValue", fn := fun _ => fun
  | [d1, d2, d3, d4] => { results := [.lit (.bool true)], args := [d1, d2, d3, d4] }
  | _ => none }
def fnExactBestValueRow : OpenClaim := { program := "ytcijldnkigmfeaa", sum := "162dbffbfaf0c5bfe08e1067086b4c78932603f195e7df3d19c3603cc9cad318", func := "loop.example/g01334/laws.FnExactBestValue", spec := "fnExactBestValue", unfollowed := true, recurses := true, plainKeys := false, apart := false }
def FnExactBestValueSaid : Prop := fnExactBestValueRow.holds Try.pinned (OpenSpec.ofChange fnExactBestValueSpec)

/-- ITS FALSE NEIGHBOUR: 'it returns false'. Refute it at one input. -/
def fnExactBestValueWrong : ChangeSpec := { name := "fnExactBestValue", fn := fun _ => fun
  | [d1, d2, d3, d4] => { results := [.lit (.bool false)], args := [d1, d2, d3, d4] }
  | _ => none }
def FnExactBestValueWrongFalsely : Prop := fnExactBestValueRow.holds Try.pinned (OpenSpec.ofChange fnExactBestValueWrong)

/-- 'laws.FnExactCanCutAll': WHATEVER THE INPUT: true; the input reads as it did. -/
def fnExactCanCutAllSpec : ChangeSpec := { name := "fnExactCanCutAll", fn := fun _ => fun
  | [d1, d2, d3, d4] => { results := [.lit (.bool true)], args := [d1, d2, d3, d4] }
  | _ => none }
def fnExactCanCutAllRow : OpenClaim := { program := "ytcijldnkigmfeaa", sum := "162dbffbfaf0c5bfe08e1067086b4c78932603f195e7df3d19c3603cc9cad318", func := "loop.example/g01334/laws.FnExactCanCutAll", spec := "fnExactCanCutAll", unfollowed := true, recurses := true, plainKeys := false, apart := false }
def FnExactCanCutAllSaid : Prop := fnExactCanCutAllRow.holds Try.pinned (OpenSpec.ofChange fnExactCanCutAllSpec)

/-- ITS FALSE NEIGHBOUR: 'it returns false'. Refute it at one input. -/
def fnExactCanCutAllWrong : ChangeSpec := { name := "fnExactCanCutAll", fn := fun _ => fun
  | [d1, d2, d3, d4] => { results := [.lit (.bool false)], args := [d1, d2, d3, d4] }
  | _ => none }
def FnExactCanCutAllWrongFalsely : Prop := fnExactCanCutAllRow.holds Try.pinned (OpenSpec.ofChange fnExactCanCutAllWrong)

/-- 'laws.FnExactFirstCut': WHATEVER THE INPUT: true; the input reads as it did. -/
def fnExactFirstCutSpec : ChangeSpec := { name := "fnExactFirstCut", fn := fun _ => fun
  | [d1, d2, d3, d4] => { results := [.lit (.bool true)], args := [d1, d2, d3, d4] }
  | _ => none }
def fnExactFirstCutRow : OpenClaim := { program := "ytcijldnkigmfeaa", sum := "162dbffbfaf0c5bfe08e1067086b4c78932603f195e7df3d19c3603cc9cad318", func := "loop.example/g01334/laws.FnExactFirstCut", spec := "fnExactFirstCut", unfollowed := true, recurses := true, plainKeys := false, apart := false }
def FnExactFirstCutSaid : Prop := fnExactFirstCutRow.holds Try.pinned (OpenSpec.ofChange fnExactFirstCutSpec)

/-- ITS FALSE NEIGHBOUR: 'it returns false'. Refute it at one input. -/
def fnExactFirstCutWrong : ChangeSpec := { name := "fnExactFirstCut", fn := fun _ => fun
  | [d1, d2, d3, d4] => { results := [.lit (.bool false)], args := [d1, d2, d3, d4] }
  | _ => none }
def FnExactFirstCutWrongFalsely : Prop := fnExactFirstCutRow.holds Try.pinned (OpenSpec.ofChange fnExactFirstCutWrong)

/-- 'laws.FnExactValueTable': WHATEVER THE INPUT: true; the input reads as it did. -/
def fnExactValueTableSpec : ChangeSpec := { name := "fnExactValueTable", fn := fun _ => fun
  | [d1, d2, d3] => { results := [.lit (.bool true)], args := [d1, d2, d3] }
  | _ => none }
def fnExactValueTableRow : OpenClaim := { program := "ytcijldnkigmfeaa", sum := "162dbffbfaf0c5bfe08e1067086b4c78932603f195e7df3d19c3603cc9cad318", func := "loop.example/g01334/laws.FnExactValueTable", spec := "fnExactValueTable", unfollowed := true, recurses := true, plainKeys := false, apart := false }
def FnExactValueTableSaid : Prop := fnExactValueTableRow.holds Try.pinned (OpenSpec.ofChange fnExactValueTableSpec)

/-- ITS FALSE NEIGHBOUR: 'it returns false'. Refute it at one input. -/
def fnExactValueTableWrong : ChangeSpec := { name := "fnExactValueTable", fn := fun _ => fun
  | [d1, d2, d3] => { results := [.lit (.bool false)], args := [d1, d2, d3] }
  | _ => none }
def FnExactValueTableWrongFalsely : Prop := fnExactValueTableRow.holds Try.pinned (OpenSpec.ofChange fnExactValueTableWrong)

/-- 'laws.FnExactWasteOf': WHATEVER THE INPUT: true; the input reads as it did. -/
def fnExactWasteOfSpec : ChangeSpec := { name := "fnExactWasteOf", fn := fun _ => fun
  | [d1, d2, d3, d4] => { results := [.lit (.bool true)], args := [d1, d2, d3, d4] }
  | _ => none }
def fnExactWasteOfRow : OpenClaim := { program := "ytcijldnkigmfeaa", sum := "162dbffbfaf0c5bfe08e1067086b4c78932603f195e7df3d19c3603cc9cad318", func := "loop.example/g01334/laws.FnExactWasteOf", spec := "fnExactWasteOf", unfollowed := true, recurses := true, plainKeys := false, apart := false }
def FnExactWasteOfSaid : Prop := fnExactWasteOfRow.holds Try.pinned (OpenSpec.ofChange fnExactWasteOfSpec)

/-- ITS FALSE NEIGHBOUR: 'it returns false'. Refute it at one input. -/
def fnExactWasteOfWrong : ChangeSpec := { name := "fnExactWasteOf", fn := fun _ => fun
  | [d1, d2, d3, d4] => { results := [.lit (.bool false)], args := [d1, d2, d3, d4] }
  | _ => none }
def FnExactWasteOfWrongFalsely : Prop := fnExactWasteOfRow.holds Try.pinned (OpenSpec.ofChange fnExactWasteOfWrong)

/-- 'laws.FnExactPiecesCut': WHATEVER THE INPUT: true; the input reads as it did. -/
def fnExactPiecesCutSpec : ChangeSpec := { name := "fnExactPiecesCut", fn := fun _ => fun
  | [d1, d2, d3, d4] => { results := [.lit (.bool true)], args := [d1, d2, d3, d4] }
  | _ => none }
def fnExactPiecesCutRow : OpenClaim := { program := "ytcijldnkigmfeaa", sum := "162dbffbfaf0c5bfe08e1067086b4c78932603f195e7df3d19c3603cc9cad318", func := "loop.example/g01334/laws.FnExactPiecesCut", spec := "fnExactPiecesCut", unfollowed := true, recurses := true, plainKeys := false, apart := false }
def FnExactPiecesCutSaid : Prop := fnExactPiecesCutRow.holds Try.pinned (OpenSpec.ofChange fnExactPiecesCutSpec)

/-- ITS FALSE NEIGHBOUR: 'it returns false'. Refute it at one input. -/
def fnExactPiecesCutWrong : ChangeSpec := { name := "fnExactPiecesCut", fn := fun _ => fun
  | [d1, d2, d3, d4] => { results := [.lit (.bool false)], args := [d1, d2, d3, d4] }
  | _ => none }
def FnExactPiecesCutWrongFalsely : Prop := fnExactPiecesCutRow.holds Try.pinned (OpenSpec.ofChange fnExactPiecesCutWrong)

/-- 'laws.FnExactSquaresByCuts': WHATEVER THE INPUT: true; the input reads as it did. -/
def fnExactSquaresByCutsSpec : ChangeSpec := { name := "fnExactSquaresByCuts", fn := fun _ => fun
  | [d1, d2] => { results := [.lit (.bool true)], args := [d1, d2] }
  | _ => none }
def fnExactSquaresByCutsRow : OpenClaim := { program := "ytcijldnkigmfeaa", sum := "162dbffbfaf0c5bfe08e1067086b4c78932603f195e7df3d19c3603cc9cad318", func := "loop.example/g01334/laws.FnExactSquaresByCuts", spec := "fnExactSquaresByCuts", recurses := true, plainKeys := false, apart := false }
def FnExactSquaresByCutsSaid : Prop := fnExactSquaresByCutsRow.holds Try.pinned (OpenSpec.ofChange fnExactSquaresByCutsSpec)

/-- ITS FALSE NEIGHBOUR: 'it returns false'. Refute it at one input. -/
def fnExactSquaresByCutsWrong : ChangeSpec := { name := "fnExactSquaresByCuts", fn := fun _ => fun
  | [d1, d2] => { results := [.lit (.bool false)], args := [d1, d2] }
  | _ => none }
def FnExactSquaresByCutsWrongFalsely : Prop := fnExactSquaresByCutsRow.holds Try.pinned (OpenSpec.ofChange fnExactSquaresByCutsWrong)

/- THE SECOND FORM. 'bulk': how many values and letters a reading holds, each counted each time it is reached (what is shared counts as often as it is met; a slice's spare places count too). A statement '..UptoSaid' is the law's where the arguments, and the package variables that the reading takes, are together of bulk at most 1048576: NARROWER than '..Said'. Prove '..Said' where nothing that the law and all that it calls make is longer than what came in: it says more and counts as full. Else prove '..UptoSaid'. A law counts once. -/
mutual
def uptoBulk {H : Type} : DataW H → Nat
  | .lit (.string bytes) => bytes.length + 1
  | .lit _ => 1
  | .nil => 1
  | .ptr d => uptoBulk d + 1
  | .slice elems spare => uptoBulkAll elems + uptoBulkAll spare + 1
  | .agg parts => uptoBulkAll parts + 1
  | .iface _ d => uptoBulk d + 1
  | .map entries => uptoBulkEntries entries + 1
  | .held _ => 1
def uptoBulkAll {H : Type} : List (DataW H) → Nat
  | [] => 0
  | d :: r => uptoBulk d + uptoBulkAll r
def uptoBulkEntries {H : Type} : List (Lit × DataW H) → Nat
  | [] => 0
  | x :: r => uptoBulkEntry x + uptoBulkEntries r
def uptoBulkEntry {H : Type} : Lit × DataW H → Nat
  | (.string bytes, d) => bytes.length + uptoBulk d + 1
  | (_, d) => uptoBulk d + 1
 end
def uptoSmall : (H : Type) → List (DataW H) → Bool := fun _ ds => decide (uptoBulkAll ds ≤ 1048576)
def OpenSpec.upto (s : _root_.Go.ChangeSpec) : _root_.Go.OpenSpec := { _root_.Go.OpenSpec.ofChange s with cond := some uptoSmall }

/-- 'laws.FnExactArePieces', WHERE WHAT IT READS IS OF BULK AT MOST 1048576: true; the input reads as it did. -/
def fnExactArePiecesUptoRow : OpenClaim := { program := "ytcijldnkigmfeaa", sum := "162dbffbfaf0c5bfe08e1067086b4c78932603f195e7df3d19c3603cc9cad318", func := "loop.example/g01334/laws.FnExactArePieces", spec := "fnExactArePieces", unfollowed := true, recurses := true, plainKeys := false, apart := false, narrowed := true }
def FnExactArePiecesUptoSaid : Prop := fnExactArePiecesUptoRow.holds Try.pinned (OpenSpec.upto fnExactArePiecesSpec)

/-- 'laws.FnExactFewestSquares', WHERE WHAT IT READS IS OF BULK AT MOST 1048576: true; the input reads as it did. -/
def fnExactFewestSquaresUptoRow : OpenClaim := { program := "ytcijldnkigmfeaa", sum := "162dbffbfaf0c5bfe08e1067086b4c78932603f195e7df3d19c3603cc9cad318", func := "loop.example/g01334/laws.FnExactFewestSquares", spec := "fnExactFewestSquares", recurses := true, plainKeys := false, apart := false, narrowed := true }
def FnExactFewestSquaresUptoSaid : Prop := fnExactFewestSquaresUptoRow.holds Try.pinned (OpenSpec.upto fnExactFewestSquaresSpec)

/-- 'laws.FnExactCutsToSquares', WHERE WHAT IT READS IS OF BULK AT MOST 1048576: true; the input reads as it did. -/
def fnExactCutsToSquaresUptoRow : OpenClaim := { program := "ytcijldnkigmfeaa", sum := "162dbffbfaf0c5bfe08e1067086b4c78932603f195e7df3d19c3603cc9cad318", func := "loop.example/g01334/laws.FnExactCutsToSquares", spec := "fnExactCutsToSquares", recurses := true, plainKeys := false, apart := false, narrowed := true }
def FnExactCutsToSquaresUptoSaid : Prop := fnExactCutsToSquaresUptoRow.holds Try.pinned (OpenSpec.upto fnExactCutsToSquaresSpec)

/-- 'laws.FnExactCountCuttings', WHERE WHAT IT READS IS OF BULK AT MOST 1048576: true; the input reads as it did. -/
def fnExactCountCuttingsUptoRow : OpenClaim := { program := "ytcijldnkigmfeaa", sum := "162dbffbfaf0c5bfe08e1067086b4c78932603f195e7df3d19c3603cc9cad318", func := "loop.example/g01334/laws.FnExactCountCuttings", spec := "fnExactCountCuttings", unfollowed := true, recurses := true, plainKeys := false, apart := false, narrowed := true }
def FnExactCountCuttingsUptoSaid : Prop := fnExactCountCuttingsUptoRow.holds Try.pinned (OpenSpec.upto fnExactCountCuttingsSpec)

/-- 'laws.FnExactMostOfOne', WHERE WHAT IT READS IS OF BULK AT MOST 1048576: true; the input reads as it did. -/
def fnExactMostOfOneUptoRow : OpenClaim := { program := "ytcijldnkigmfeaa", sum := "162dbffbfaf0c5bfe08e1067086b4c78932603f195e7df3d19c3603cc9cad318", func := "loop.example/g01334/laws.FnExactMostOfOne", spec := "fnExactMostOfOne", unfollowed := true, recurses := true, plainKeys := false, apart := false, narrowed := true }
def FnExactMostOfOneUptoSaid : Prop := fnExactMostOfOneUptoRow.holds Try.pinned (OpenSpec.upto fnExactMostOfOneSpec)

/-- 'laws.FnExactTurnPieces', WHERE WHAT IT READS IS OF BULK AT MOST 1048576: true; the input reads as it did. -/
def fnExactTurnPiecesUptoRow : OpenClaim := { program := "ytcijldnkigmfeaa", sum := "162dbffbfaf0c5bfe08e1067086b4c78932603f195e7df3d19c3603cc9cad318", func := "loop.example/g01334/laws.FnExactTurnPieces", spec := "fnExactTurnPieces", unfollowed := true, recurses := true, plainKeys := false, apart := false, narrowed := true }
def FnExactTurnPiecesUptoSaid : Prop := fnExactTurnPiecesUptoRow.holds Try.pinned (OpenSpec.upto fnExactTurnPiecesSpec)

/-- 'laws.FnExactBestValue', WHERE WHAT IT READS IS OF BULK AT MOST 1048576: true; the input reads as it did. -/
def fnExactBestValueUptoRow : OpenClaim := { program := "ytcijldnkigmfeaa", sum := "162dbffbfaf0c5bfe08e1067086b4c78932603f195e7df3d19c3603cc9cad318", func := "loop.example/g01334/laws.FnExactBestValue", spec := "fnExactBestValue", unfollowed := true, recurses := true, plainKeys := false, apart := false, narrowed := true }
def FnExactBestValueUptoSaid : Prop := fnExactBestValueUptoRow.holds Try.pinned (OpenSpec.upto fnExactBestValueSpec)

/-- 'laws.FnExactCanCutAll', WHERE WHAT IT READS IS OF BULK AT MOST 1048576: true; the input reads as it did. -/
def fnExactCanCutAllUptoRow : OpenClaim := { program := "ytcijldnkigmfeaa", sum := "162dbffbfaf0c5bfe08e1067086b4c78932603f195e7df3d19c3603cc9cad318", func := "loop.example/g01334/laws.FnExactCanCutAll", spec := "fnExactCanCutAll", unfollowed := true, recurses := true, plainKeys := false, apart := false, narrowed := true }
def FnExactCanCutAllUptoSaid : Prop := fnExactCanCutAllUptoRow.holds Try.pinned (OpenSpec.upto fnExactCanCutAllSpec)

/-- 'laws.FnExactFirstCut', WHERE WHAT IT READS IS OF BULK AT MOST 1048576: true; the input reads as it did. -/
def fnExactFirstCutUptoRow : OpenClaim := { program := "ytcijldnkigmfeaa", sum := "162dbffbfaf0c5bfe08e1067086b4c78932603f195e7df3d19c3603cc9cad318", func := "loop.example/g01334/laws.FnExactFirstCut", spec := "fnExactFirstCut", unfollowed := true, recurses := true, plainKeys := false, apart := false, narrowed := true }
def FnExactFirstCutUptoSaid : Prop := fnExactFirstCutUptoRow.holds Try.pinned (OpenSpec.upto fnExactFirstCutSpec)

/-- 'laws.FnExactValueTable', WHERE WHAT IT READS IS OF BULK AT MOST 1048576: true; the input reads as it did. -/
def fnExactValueTableUptoRow : OpenClaim := { program := "ytcijldnkigmfeaa", sum := "162dbffbfaf0c5bfe08e1067086b4c78932603f195e7df3d19c3603cc9cad318", func := "loop.example/g01334/laws.FnExactValueTable", spec := "fnExactValueTable", unfollowed := true, recurses := true, plainKeys := false, apart := false, narrowed := true }
def FnExactValueTableUptoSaid : Prop := fnExactValueTableUptoRow.holds Try.pinned (OpenSpec.upto fnExactValueTableSpec)

/-- 'laws.FnExactWasteOf', WHERE WHAT IT READS IS OF BULK AT MOST 1048576: true; the input reads as it did. -/
def fnExactWasteOfUptoRow : OpenClaim := { program := "ytcijldnkigmfeaa", sum := "162dbffbfaf0c5bfe08e1067086b4c78932603f195e7df3d19c3603cc9cad318", func := "loop.example/g01334/laws.FnExactWasteOf", spec := "fnExactWasteOf", unfollowed := true, recurses := true, plainKeys := false, apart := false, narrowed := true }
def FnExactWasteOfUptoSaid : Prop := fnExactWasteOfUptoRow.holds Try.pinned (OpenSpec.upto fnExactWasteOfSpec)

/-- 'laws.FnExactPiecesCut', WHERE WHAT IT READS IS OF BULK AT MOST 1048576: true; the input reads as it did. -/
def fnExactPiecesCutUptoRow : OpenClaim := { program := "ytcijldnkigmfeaa", sum := "162dbffbfaf0c5bfe08e1067086b4c78932603f195e7df3d19c3603cc9cad318", func := "loop.example/g01334/laws.FnExactPiecesCut", spec := "fnExactPiecesCut", unfollowed := true, recurses := true, plainKeys := false, apart := false, narrowed := true }
def FnExactPiecesCutUptoSaid : Prop := fnExactPiecesCutUptoRow.holds Try.pinned (OpenSpec.upto fnExactPiecesCutSpec)

/-- 'laws.FnExactSquaresByCuts', WHERE WHAT IT READS IS OF BULK AT MOST 1048576: true; the input reads as it did. -/
def fnExactSquaresByCutsUptoRow : OpenClaim := { program := "ytcijldnkigmfeaa", sum := "162dbffbfaf0c5bfe08e1067086b4c78932603f195e7df3d19c3603cc9cad318", func := "loop.example/g01334/laws.FnExactSquaresByCuts", spec := "fnExactSquaresByCuts", recurses := true, plainKeys := false, apart := false, narrowed := true }
def FnExactSquaresByCutsUptoSaid : Prop := fnExactSquaresByCutsUptoRow.holds Try.pinned (OpenSpec.upto fnExactSquaresByCutsSpec)

end Rows
end Go.Proofs.Ytcijldnkigmfeaa
