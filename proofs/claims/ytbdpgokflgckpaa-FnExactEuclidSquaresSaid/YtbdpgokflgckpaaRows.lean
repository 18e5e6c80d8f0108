/-
  No cell of these rows narrows 'for every input' (looked for: loops, veiled, ifaces, maps, wideKeys, modest, calm, conditions, laid).
  DERIVED. THE GIVEN ROWS OF THIS SEAT. 5 by the template 'for every input the law returns true; each argument reads behind the call as it read before'; 0 by the template 'total and deterministic' (their statements: YtbdpgokflgckpaaTotals.lean).
  GIVEN WITH THE SEED: the statements are not yours to turn. If you find one false, say at which input.
  Laid BY PROGRAM, IN A SANDBOX (cutbox-rows.mjs): the forced cells as the released guide's own fill.sh prints them over the translation 7a36571b76b1316b… (all of the seat's roots in one cut). By AI agents, Wed Nov 11 2026. No macro, syntax, notation, axiom, sorry.
-/
import Derived.Test.YtbdpgokflgckpaaChecked
import GoSem.Claim
import GoSem.ClaimJoined
import GoSem.ClaimMapViews
import Derived.JoinedTies
import Derived.KernelRfl
namespace Go.Proofs.Ytbdpgokflgckpaa
/- THE CELL 'sum', in the pinned program and in every row, IS THE sha256 OF THE DUMP (.gsa) THAT YtbdpgokflgckpaaProg.lean LOADS. Nothing in Lean hashes anything: it is a label: what it is worth is what the hold of that sum in a sandbox is worth. -/
noncomputable def Try.pinned : Pinned := { name := "ytbdpgokflgckpaa", sum := "7a36571b76b1316bf486aff4e6b8544d2d83d63284043263667013c2807bbccc", checked := Try.checked }
namespace Rows
def none {H : Type} : Left H := { results := [], args := [] }

/-- 'laws.FnExactCountServed': WHATEVER THE INPUT: true; the input reads as it did. -/
def fnExactCountServedSpec : ChangeSpec := { name := "fnExactCountServed", fn := fun _ => fun
  | [d] => { results := [.lit (.bool true)], args := [d] }
  | _ => none }
def fnExactCountServedRow : OpenClaim := { program := "ytbdpgokflgckpaa", sum := "7a36571b76b1316bf486aff4e6b8544d2d83d63284043263667013c2807bbccc", func := "loop.example/g01334/laws.FnExactCountServed", spec := "fnExactCountServed", apart := false }
def FnExactCountServedSaid : Prop := fnExactCountServedRow.holds Try.pinned (OpenSpec.ofChange fnExactCountServedSpec)

/-- ITS FALSE NEIGHBOUR: 'it returns false'. Refute it at one input. -/
def fnExactCountServedWrong : ChangeSpec := { name := "fnExactCountServed", fn := fun _ => fun
  | [d] => { results := [.lit (.bool false)], args := [d] }
  | _ => none }
def FnExactCountServedWrongFalsely : Prop := fnExactCountServedRow.holds Try.pinned (OpenSpec.ofChange fnExactCountServedWrong)

/-- 'laws.FnExactVolumeOf': WHATEVER THE INPUT: true; the input reads as it did. -/
def fnExactVolumeOfSpec : ChangeSpec := { name := "fnExactVolumeOf", fn := fun _ => fun
  | [d] => { results := [.lit (.bool true)], args := [d] }
  | _ => none }
def fnExactVolumeOfRow : OpenClaim := { program := "ytbdpgokflgckpaa", sum := "7a36571b76b1316bf486aff4e6b8544d2d83d63284043263667013c2807bbccc", func := "loop.example/g01334/laws.FnExactVolumeOf", spec := "fnExactVolumeOf", unfollowed := true, recurses := true, apart := false }
def FnExactVolumeOfSaid : Prop := fnExactVolumeOfRow.holds Try.pinned (OpenSpec.ofChange fnExactVolumeOfSpec)

/-- ITS FALSE NEIGHBOUR: 'it returns false'. Refute it at one input. -/
def fnExactVolumeOfWrong : ChangeSpec := { name := "fnExactVolumeOf", fn := fun _ => fun
  | [d] => { results := [.lit (.bool false)], args := [d] }
  | _ => none }
def FnExactVolumeOfWrongFalsely : Prop := fnExactVolumeOfRow.holds Try.pinned (OpenSpec.ofChange fnExactVolumeOfWrong)

/-- 'laws.FnExactIsClue': WHATEVER THE INPUT: true; the input reads as it did. -/
def fnExactIsClueSpec : ChangeSpec := { name := "fnExactIsClue", fn := fun _ => fun
  | [d1, d2] => { results := [.lit (.bool true)], args := [d1, d2] }
  | _ => none }
def fnExactIsClueRow : OpenClaim := { program := "ytbdpgokflgckpaa", sum := "7a36571b76b1316bf486aff4e6b8544d2d83d63284043263667013c2807bbccc", func := "loop.example/g01334/laws.FnExactIsClue", spec := "fnExactIsClue", apart := false }
def FnExactIsClueSaid : Prop := fnExactIsClueRow.holds Try.pinned (OpenSpec.ofChange fnExactIsClueSpec)

/-- ITS FALSE NEIGHBOUR: 'it returns false'. Refute it at one input. -/
def fnExactIsClueWrong : ChangeSpec := { name := "fnExactIsClue", fn := fun _ => fun
  | [d1, d2] => { results := [.lit (.bool false)], args := [d1, d2] }
  | _ => none }
def FnExactIsClueWrongFalsely : Prop := fnExactIsClueRow.holds Try.pinned (OpenSpec.ofChange fnExactIsClueWrong)

/-- 'laws.FnExactFitsIn': WHATEVER THE INPUT: true; the input reads as it did. -/
def fnExactFitsInSpec : ChangeSpec := { name := "fnExactFitsIn", fn := fun _ => fun
  | [d1, d2] => { results := [.lit (.bool true)], args := [d1, d2] }
  | _ => none }
def fnExactFitsInRow : OpenClaim := { program := "ytbdpgokflgckpaa", sum := "7a36571b76b1316bf486aff4e6b8544d2d83d63284043263667013c2807bbccc", func := "loop.example/g01334/laws.FnExactFitsIn", spec := "fnExactFitsIn", unfollowed := true, recurses := true, apart := false }
def FnExactFitsInSaid : Prop := fnExactFitsInRow.holds Try.pinned (OpenSpec.ofChange fnExactFitsInSpec)

/-- ITS FALSE NEIGHBOUR: 'it returns false'. Refute it at one input. -/
def fnExactFitsInWrong : ChangeSpec := { name := "fnExactFitsIn", fn := fun _ => fun
  | [d1, d2] => { results := [.lit (.bool false)], args := [d1, d2] }
  | _ => none }
def FnExactFitsInWrongFalsely : Prop := fnExactFitsInRow.holds Try.pinned (OpenSpec.ofChange fnExactFitsInWrong)

/-- 'laws.FnExactEuclidSquares': WHATEVER THE INPUT: true; the input reads as it did. -/
def fnExactEuclidSquaresSpec : ChangeSpec := { name := "fnExactEuclidSquares", fn := fun _ => fun
  | [d1, d2] => { results := [.lit (.bool true)], args := [d1, d2] }
  | _ => none }
def fnExactEuclidSquaresRow : OpenClaim := { program := "ytbdpgokflgckpaa", sum := "7a36571b76b1316bf486aff4e6b8544d2d83d63284043263667013c2807bbccc", func := "loop.example/g01334/laws.FnExactEuclidSquares", spec := "fnExactEuclidSquares", apart := false }
def FnExactEuclidSquaresSaid : Prop := fnExactEuclidSquaresRow.holds Try.pinned (OpenSpec.ofChange fnExactEuclidSquaresSpec)

/-- ITS FALSE NEIGHBOUR: 'it returns false'. Refute it at one input. -/
def fnExactEuclidSquaresWrong : ChangeSpec := { name := "fnExactEuclidSquares", fn := fun _ => fun
  | [d1, d2] => { results := [.lit (.bool false)], args := [d1, d2] }
  | _ => none }
def FnExactEuclidSquaresWrongFalsely : Prop := fnExactEuclidSquaresRow.holds Try.pinned (OpenSpec.ofChange fnExactEuclidSquaresWrong)

/- THE SECOND FORM. 'bulk': how many values and letters a reading holds, each counted each time it is reached (what is shared counts as often as it is met; a slice's spare places count too). A statement '..UptoSaid' is the law's where the arguments, and the package variables that the reading takes, are together of bulk at most 1048576: NARROWER than '..Said'. Prove '..Said' where nothing that the law and all that it calls make is longer than what came in: it says more and counts as full. Else prove '..UptoSaid'. A law counts once. -/
mutual
def uptoBulk {H : Type} : DataW H → Nat
  | .lit (.string bytes) => bytes.length + 1
  | .lit _ => 1
  | .nil => 1
  | .ptr d => uptoBulk d + 1
  | .slice elems spare => uptoBulkAll elems + uptoBulkAll spare + 1
  | .agg parts => uptoBulkAll parts + 1
  | .iface _ d => uptoBulk d + 1
  | .map entries => uptoBulkEntries entries + 1
  | .held _ => 1
def uptoBulkAll {H : Type} : List (DataW H) → Nat
  | [] => 0
  | d :: r => uptoBulk d + uptoBulkAll r
def uptoBulkEntries {H : Type} : List (Lit × DataW H) → Nat
  | [] => 0
  | x :: r => uptoBulkEntry x + uptoBulkEntries r
def uptoBulkEntry {H : Type} : Lit × DataW H → Nat
  | (.string bytes, d) => bytes.length + uptoBulk d + 1
  | (_, d) => uptoBulk d + 1
 end
def uptoSmall : (H : Type) → List (DataW H) → Bool := fun _ ds => decide (uptoBulkAll ds ≤ 1048576)
def OpenSpec.upto (s : _root_.Go.ChangeSpec) : _root_.Go.OpenSpec := { _root_.Go.OpenSpec.ofChange s with cond := some uptoSmall }

/-- 'laws.FnExactCountServed', WHERE WHAT IT READS IS OF BULK AT MOST 1048576: true; the input reads as it did. -/
def fnExactCountServedUptoRow : OpenClaim := { program := "ytbdpgokflgckpaa", sum := "7a36571b76b1316bf486aff4e6b8544d2d83d63284043263667013c2807bbccc", func := "loop.example/g01334/laws.FnExactCountServed", spec := "fnExactCountServed", apart := false, narrowed := true }
def FnExactCountServedUptoSaid : Prop := fnExactCountServedUptoRow.holds Try.pinned (OpenSpec.upto fnExactCountServedSpec)

/-- 'laws.FnExactVolumeOf', WHERE WHAT IT READS IS OF BULK AT MOST 1048576: true; the input reads as it did. -/
def fnExactVolumeOfUptoRow : OpenClaim := { program := "ytbdpgokflgckpaa", sum := "7a36571b76b1316bf486aff4e6b8544d2d83d63284043263667013c2807bbccc", func := "loop.example/g01334/laws.FnExactVolumeOf", spec := "fnExactVolumeOf", unfollowed := true, recurses := true, apart := false, narrowed := true }
def FnExactVolumeOfUptoSaid : Prop := fnExactVolumeOfUptoRow.holds Try.pinned (OpenSpec.upto fnExactVolumeOfSpec)

/-- 'laws.FnExactIsClue', WHERE WHAT IT READS IS OF BULK AT MOST 1048576: true; the input reads as it did. -/
def fnExactIsClueUptoRow : OpenClaim := { program := "ytbdpgokflgckpaa", sum := "7a36571b76b1316bf486aff4e6b8544d2d83d63284043263667013c2807bbccc", func := "loop.example/g01334/laws.FnExactIsClue", spec := "fnExactIsClue", apart := false, narrowed := true }
def FnExactIsClueUptoSaid : Prop := fnExactIsClueUptoRow.holds Try.pinned (OpenSpec.upto fnExactIsClueSpec)

/-- 'laws.FnExactFitsIn', WHERE WHAT IT READS IS OF BULK AT MOST 1048576: true; the input reads as it did. -/
def fnExactFitsInUptoRow : OpenClaim := { program := "ytbdpgokflgckpaa", sum := "7a36571b76b1316bf486aff4e6b8544d2d83d63284043263667013c2807bbccc", func := "loop.example/g01334/laws.FnExactFitsIn", spec := "fnExactFitsIn", unfollowed := true, recurses := true, apart := false, narrowed := true }
def FnExactFitsInUptoSaid : Prop := fnExactFitsInUptoRow.holds Try.pinned (OpenSpec.upto fnExactFitsInSpec)

/-- 'laws.FnExactEuclidSquares', WHERE WHAT IT READS IS OF BULK AT MOST 1048576: true; the input reads as it did. -/
def fnExactEuclidSquaresUptoRow : OpenClaim := { program := "ytbdpgokflgckpaa", sum := "7a36571b76b1316bf486aff4e6b8544d2d83d63284043263667013c2807bbccc", func := "loop.example/g01334/laws.FnExactEuclidSquares", spec := "fnExactEuclidSquares", apart := false, narrowed := true }
def FnExactEuclidSquaresUptoSaid : Prop := fnExactEuclidSquaresUptoRow.holds Try.pinned (OpenSpec.upto fnExactEuclidSquaresSpec)

end Rows
end Go.Proofs.Ytbdpgokflgckpaa
