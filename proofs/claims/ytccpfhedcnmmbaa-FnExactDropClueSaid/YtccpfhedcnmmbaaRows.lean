/-
  No cell of these rows narrows 'for every input' (looked for: loops, veiled, ifaces, maps, wideKeys, modest, calm, conditions, laid).
  DERIVED. THE GIVEN ROWS OF THIS SEAT. 7 by the template 'for every input the law returns true; each argument reads behind the call as it read before'; 0 by the template 'total and deterministic' (their statements: YtccpfhedcnmmbaaTotals.lean).
  GIVEN WITH THE SEED: the statements are not yours to turn. If you find one false, say at which input.
  Laid BY PROGRAM, IN A SANDBOX (cutbox-rows.mjs): the forced cells as the released guide's own fill.sh prints them over the translation 9bd95c71e1e886c7… (all of the seat's roots in one cut). By AI agents, Wed Nov 11 2026. No macro, syntax, notation, axiom, sorry.
-/
import Derived.Test.YtccpfhedcnmmbaaChecked
import GoSem.Claim
import GoSem.ClaimJoined
import GoSem.ClaimMapViews
import Derived.JoinedTies
import Derived.KernelRfl
namespace Go.Proofs.Ytccpfhedcnmmbaa
/- THE CELL 'sum', in the pinned program and in every row, IS THE sha256 OF THE DUMP (.gsa) THAT YtccpfhedcnmmbaaProg.lean LOADS. Nothing in Lean hashes anything: it is a label: what it is worth is what the hold of that sum in a sandbox is worth. -/
noncomputable def Try.pinned : Pinned := { name := "ytccpfhedcnmmbaa", sum := "9bd95c71e1e886c7e8231e1b8c0d10e0fc0cad8c81a7eb6dba60893a91151dec", checked := Try.checked }
namespace Rows
def none {H : Type} : Left H := { results := [], args := [] }

/-- 'laws.FnExactVolumeOf': WHATEVER THE INPUT: true; the input reads as it did. -/
def fnExactVolumeOfSpec : ChangeSpec := { name := "fnExactVolumeOf", fn := fun _ => fun
  | [d] => { results := [.lit (.bool true)], args := [d] }
  | _ => none }
def fnExactVolumeOfRow : OpenClaim := { program := "ytccpfhedcnmmbaa", sum := "9bd95c71e1e886c7e8231e1b8c0d10e0fc0cad8c81a7eb6dba60893a91151dec", func := "loop.example/g01334/laws.FnExactVolumeOf", spec := "fnExactVolumeOf", unfollowed := true, recurses := true, apart := false }
def FnExactVolumeOfSaid : Prop := fnExactVolumeOfRow.holds Try.pinned (OpenSpec.ofChange fnExactVolumeOfSpec)

/-- ITS FALSE NEIGHBOUR: 'it returns false'. Refute it at one input. -/
def fnExactVolumeOfWrong : ChangeSpec := { name := "fnExactVolumeOf", fn := fun _ => fun
  | [d] => { results := [.lit (.bool false)], args := [d] }
  | _ => none }
def FnExactVolumeOfWrongFalsely : Prop := fnExactVolumeOfRow.holds Try.pinned (OpenSpec.ofChange fnExactVolumeOfWrong)

/-- 'laws.FnExactIsClue': WHATEVER THE INPUT: true; the input reads as it did. -/
def fnExactIsClueSpec : ChangeSpec := { name := "fnExactIsClue", fn := fun _ => fun
  | [d1, d2] => { results := [.lit (.bool true)], args := [d1, d2] }
  | _ => none }
def fnExactIsClueRow : OpenClaim := { program := "ytccpfhedcnmmbaa", sum := "9bd95c71e1e886c7e8231e1b8c0d10e0fc0cad8c81a7eb6dba60893a91151dec", func := "loop.example/g01334/laws.FnExactIsClue", spec := "fnExactIsClue", apart := false }
def FnExactIsClueSaid : Prop := fnExactIsClueRow.holds Try.pinned (OpenSpec.ofChange fnExactIsClueSpec)

/-- ITS FALSE NEIGHBOUR: 'it returns false'. Refute it at one input. -/
def fnExactIsClueWrong : ChangeSpec := { name := "fnExactIsClue", fn := fun _ => fun
  | [d1, d2] => { results := [.lit (.bool false)], args := [d1, d2] }
  | _ => none }
def FnExactIsClueWrongFalsely : Prop := fnExactIsClueRow.holds Try.pinned (OpenSpec.ofChange fnExactIsClueWrong)

/-- 'laws.FnExactFitsIn': WHATEVER THE INPUT: true; the input reads as it did. -/
def fnExactFitsInSpec : ChangeSpec := { name := "fnExactFitsIn", fn := fun _ => fun
  | [d1, d2] => { results := [.lit (.bool true)], args := [d1, d2] }
  | _ => none }
def fnExactFitsInRow : OpenClaim := { program := "ytccpfhedcnmmbaa", sum := "9bd95c71e1e886c7e8231e1b8c0d10e0fc0cad8c81a7eb6dba60893a91151dec", func := "loop.example/g01334/laws.FnExactFitsIn", spec := "fnExactFitsIn", unfollowed := true, recurses := true, apart := false }
def FnExactFitsInSaid : Prop := fnExactFitsInRow.holds Try.pinned (OpenSpec.ofChange fnExactFitsInSpec)

/-- ITS FALSE NEIGHBOUR: 'it returns false'. Refute it at one input. -/
def fnExactFitsInWrong : ChangeSpec := { name := "fnExactFitsIn", fn := fun _ => fun
  | [d1, d2] => { results := [.lit (.bool false)], args := [d1, d2] }
  | _ => none }
def FnExactFitsInWrongFalsely : Prop := fnExactFitsInRow.holds Try.pinned (OpenSpec.ofChange fnExactFitsInWrong)

/-- 'laws.FnExactAreBoxes': WHATEVER THE INPUT: true; the input reads as it did. -/
def fnExactAreBoxesSpec : ChangeSpec := { name := "fnExactAreBoxes", fn := fun _ => fun
  | [d] => { results := [.lit (.bool true)], args := [d] }
  | _ => none }
def fnExactAreBoxesRow : OpenClaim := { program := "ytccpfhedcnmmbaa", sum := "9bd95c71e1e886c7e8231e1b8c0d10e0fc0cad8c81a7eb6dba60893a91151dec", func := "loop.example/g01334/laws.FnExactAreBoxes", spec := "fnExactAreBoxes", unfollowed := true, recurses := true, apart := false }
def FnExactAreBoxesSaid : Prop := fnExactAreBoxesRow.holds Try.pinned (OpenSpec.ofChange fnExactAreBoxesSpec)

/-- ITS FALSE NEIGHBOUR: 'it returns false'. Refute it at one input. -/
def fnExactAreBoxesWrong : ChangeSpec := { name := "fnExactAreBoxes", fn := fun _ => fun
  | [d] => { results := [.lit (.bool false)], args := [d] }
  | _ => none }
def FnExactAreBoxesWrongFalsely : Prop := fnExactAreBoxesRow.holds Try.pinned (OpenSpec.ofChange fnExactAreBoxesWrong)

/-- 'laws.FnExactIsPuzzle': WHATEVER THE INPUT: true; the input reads as it did. -/
def fnExactIsPuzzleSpec : ChangeSpec := { name := "fnExactIsPuzzle", fn := fun _ => fun
  | [d] => { results := [.lit (.bool true)], args := [d] }
  | _ => none }
def fnExactIsPuzzleRow : OpenClaim := { program := "ytccpfhedcnmmbaa", sum := "9bd95c71e1e886c7e8231e1b8c0d10e0fc0cad8c81a7eb6dba60893a91151dec", func := "loop.example/g01334/laws.FnExactIsPuzzle", spec := "fnExactIsPuzzle", unfollowed := true, recurses := true, apart := false }
def FnExactIsPuzzleSaid : Prop := fnExactIsPuzzleRow.holds Try.pinned (OpenSpec.ofChange fnExactIsPuzzleSpec)

/-- ITS FALSE NEIGHBOUR: 'it returns false'. Refute it at one input. -/
def fnExactIsPuzzleWrong : ChangeSpec := { name := "fnExactIsPuzzle", fn := fun _ => fun
  | [d] => { results := [.lit (.bool false)], args := [d] }
  | _ => none }
def FnExactIsPuzzleWrongFalsely : Prop := fnExactIsPuzzleRow.holds Try.pinned (OpenSpec.ofChange fnExactIsPuzzleWrong)

/-- 'laws.FnExactAddClue': WHATEVER THE INPUT: true; the input reads as it did. -/
def fnExactAddClueSpec : ChangeSpec := { name := "fnExactAddClue", fn := fun _ => fun
  | [d1, d2] => { results := [.lit (.bool true)], args := [d1, d2] }
  | _ => none }
def fnExactAddClueRow : OpenClaim := { program := "ytccpfhedcnmmbaa", sum := "9bd95c71e1e886c7e8231e1b8c0d10e0fc0cad8c81a7eb6dba60893a91151dec", func := "loop.example/g01334/laws.FnExactAddClue", spec := "fnExactAddClue", unfollowed := true, recurses := true, apart := false }
def FnExactAddClueSaid : Prop := fnExactAddClueRow.holds Try.pinned (OpenSpec.ofChange fnExactAddClueSpec)

/-- ITS FALSE NEIGHBOUR: 'it returns false'. Refute it at one input. -/
def fnExactAddClueWrong : ChangeSpec := { name := "fnExactAddClue", fn := fun _ => fun
  | [d1, d2] => { results := [.lit (.bool false)], args := [d1, d2] }
  | _ => none }
def FnExactAddClueWrongFalsely : Prop := fnExactAddClueRow.holds Try.pinned (OpenSpec.ofChange fnExactAddClueWrong)

/-- 'laws.FnExactDropClue': WHATEVER THE INPUT: true; the input reads as it did. -/
def fnExactDropClueSpec : ChangeSpec := { name := "fnExactDropClue", fn := fun _ => fun
  | [d1, d2] => { results := [.lit (.bool true)], args := [d1, d2] }
  | _ => none }
def fnExactDropClueRow : OpenClaim := { program := "ytccpfhedcnmmbaa", sum := "9bd95c71e1e886c7e8231e1b8c0d10e0fc0cad8c81a7eb6dba60893a91151dec", func := "loop.example/g01334/laws.FnExactDropClue", spec := "fnExactDropClue", unfollowed := true, recurses := true, apart := false }
def FnExactDropClueSaid : Prop := fnExactDropClueRow.holds Try.pinned (OpenSpec.ofChange fnExactDropClueSpec)

/-- ITS FALSE NEIGHBOUR: 'it returns false'. Refute it at one input. -/
def fnExactDropClueWrong : ChangeSpec := { name := "fnExactDropClue", fn := fun _ => fun
  | [d1, d2] => { results := [.lit (.bool false)], args := [d1, d2] }
  | _ => none }
def FnExactDropClueWrongFalsely : Prop := fnExactDropClueRow.holds Try.pinned (OpenSpec.ofChange fnExactDropClueWrong)

/- THE SECOND FORM. 'bulk': how many values and letters a reading holds, each counted each time it is reached (what is shared counts as often as it is met; a slice's spare places count too). A statement '..UptoSaid' is the law's where the arguments, and the package variables that the reading takes, are together of bulk at most 1048576: NARROWER than '..Said'. Prove '..Said' where nothing that the law and all that it calls make is longer than what came in: it says more and counts as full. Else prove '..UptoSaid'. A law counts once. -/
mutual
def uptoBulk {H : Type} : DataW H → Nat
  | .lit (.string bytes) => bytes.length + 1
  | .lit _ => 1
  | .nil => 1
  | .ptr d => uptoBulk d + 1
  | .slice elems spare => uptoBulkAll elems + uptoBulkAll spare + 1
  | .agg parts => uptoBulkAll parts + 1
  | .iface _ d => uptoBulk d + 1
  | .map entries => uptoBulkEntries entries + 1
  | .held _ => 1
def uptoBulkAll {H : Type} : List (DataW H) → Nat
  | [] => 0
  | d :: r => uptoBulk d + uptoBulkAll r
def uptoBulkEntries {H : Type} : List (Lit × DataW H) → Nat
  | [] => 0
  | x :: r => uptoBulkEntry x + uptoBulkEntries r
def uptoBulkEntry {H : Type} : Lit × DataW H → Nat
  | (.string bytes, d) => bytes.length + uptoBulk d + 1
  | (_, d) => uptoBulk d + 1
 end
def uptoSmall : (H : Type) → List (DataW H) → Bool := fun _ ds => decide (uptoBulkAll ds ≤ 1048576)
def OpenSpec.upto (s : _root_.Go.ChangeSpec) : _root_.Go.OpenSpec := { _root_.Go.OpenSpec.ofChange s with cond := some uptoSmall }

/-- 'laws.FnExactVolumeOf', WHERE WHAT IT READS IS OF BULK AT MOST 1048576: true; the input reads as it did. -/
def fnExactVolumeOfUptoRow : OpenClaim := { program := "ytccpfhedcnmmbaa", sum := "9bd95c71e1e886c7e8231e1b8c0d10e0fc0cad8c81a7eb6dba60893a91151dec", func := "loop.example/g01334/laws.FnExactVolumeOf", spec := "fnExactVolumeOf", unfollowed := true, recurses := true, apart := false, narrowed := true }
def FnExactVolumeOfUptoSaid : Prop := fnExactVolumeOfUptoRow.holds Try.pinned (OpenSpec.upto fnExactVolumeOfSpec)

/-- 'laws.FnExactIsClue', WHERE WHAT IT READS IS OF BULK AT MOST 1048576: true; the input reads as it did. -/
def fnExactIsClueUptoRow : OpenClaim := { program := "ytccpfhedcnmmbaa", sum := "9bd95c71e1e886c7e8231e1b8c0d10e0fc0cad8c81a7eb6dba60893a91151dec", func := "loop.example/g01334/laws.FnExactIsClue", spec := "fnExactIsClue", apart := false, narrowed := true }
def FnExactIsClueUptoSaid : Prop := fnExactIsClueUptoRow.holds Try.pinned (OpenSpec.upto fnExactIsClueSpec)

/-- 'laws.FnExactFitsIn', WHERE WHAT IT READS IS OF BULK AT MOST 1048576: true; the input reads as it did. -/
def fnExactFitsInUptoRow : OpenClaim := { program := "ytccpfhedcnmmbaa", sum := "9bd95c71e1e886c7e8231e1b8c0d10e0fc0cad8c81a7eb6dba60893a91151dec", func := "loop.example/g01334/laws.FnExactFitsIn", spec := "fnExactFitsIn", unfollowed := true, recurses := true, apart := false, narrowed := true }
def FnExactFitsInUptoSaid : Prop := fnExactFitsInUptoRow.holds Try.pinned (OpenSpec.upto fnExactFitsInSpec)

/-- 'laws.FnExactAreBoxes', WHERE WHAT IT READS IS OF BULK AT MOST 1048576: true; the input reads as it did. -/
def fnExactAreBoxesUptoRow : OpenClaim := { program := "ytccpfhedcnmmbaa", sum := "9bd95c71e1e886c7e8231e1b8c0d10e0fc0cad8c81a7eb6dba60893a91151dec", func := "loop.example/g01334/laws.FnExactAreBoxes", spec := "fnExactAreBoxes", unfollowed := true, recurses := true, apart := false, narrowed := true }
def FnExactAreBoxesUptoSaid : Prop := fnExactAreBoxesUptoRow.holds Try.pinned (OpenSpec.upto fnExactAreBoxesSpec)

/-- 'laws.FnExactIsPuzzle', WHERE WHAT IT READS IS OF BULK AT MOST 1048576: true; the input reads as it did. -/
def fnExactIsPuzzleUptoRow : OpenClaim := { program := "ytccpfhedcnmmbaa", sum := "9bd95c71e1e886c7e8231e1b8c0d10e0fc0cad8c81a7eb6dba60893a91151dec", func := "loop.example/g01334/laws.FnExactIsPuzzle", spec := "fnExactIsPuzzle", unfollowed := true, recurses := true, apart := false, narrowed := true }
def FnExactIsPuzzleUptoSaid : Prop := fnExactIsPuzzleUptoRow.holds Try.pinned (OpenSpec.upto fnExactIsPuzzleSpec)

/-- 'laws.FnExactAddClue', WHERE WHAT IT READS IS OF BULK AT MOST 1048576: true; the input reads as it did. -/
def fnExactAddClueUptoRow : OpenClaim := { program := "ytccpfhedcnmmbaa", sum := "9bd95c71e1e886c7e8231e1b8c0d10e0fc0cad8c81a7eb6dba60893a91151dec", func := "loop.example/g01334/laws.FnExactAddClue", spec := "fnExactAddClue", unfollowed := true, recurses := true, apart := false, narrowed := true }
def FnExactAddClueUptoSaid : Prop := fnExactAddClueUptoRow.holds Try.pinned (OpenSpec.upto fnExactAddClueSpec)

/-- 'laws.FnExactDropClue', WHERE WHAT IT READS IS OF BULK AT MOST 1048576: true; the input reads as it did. -/
def fnExactDropClueUptoRow : OpenClaim := { program := "ytccpfhedcnmmbaa", sum := "9bd95c71e1e886c7e8231e1b8c0d10e0fc0cad8c81a7eb6dba60893a91151dec", func := "loop.example/g01334/laws.FnExactDropClue", spec := "fnExactDropClue", unfollowed := true, recurses := true, apart := false, narrowed := true }
def FnExactDropClueUptoSaid : Prop := fnExactDropClueUptoRow.holds Try.pinned (OpenSpec.upto fnExactDropClueSpec)

end Rows
end Go.Proofs.Ytccpfhedcnmmbaa
