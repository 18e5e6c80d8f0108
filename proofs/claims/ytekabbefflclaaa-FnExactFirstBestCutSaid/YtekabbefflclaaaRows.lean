/-
  No cell of these rows narrows 'for every input' (looked for: loops, veiled, ifaces, maps, wideKeys, modest, calm, conditions, laid).
  DERIVED. THE GIVEN ROWS OF THIS SEAT. 4 by the template 'for every input the law returns true; each argument reads behind the call as it read before'; 0 by the template 'total and deterministic' (their statements: YtekabbefflclaaaTotals.lean).
  GIVEN WITH THE SEED: the statements are not yours to turn. If you find one false, say at which input.
  Laid BY PROGRAM, IN A SANDBOX (cutbox-rows.mjs): the forced cells as the released guide's own fill.sh prints them over the translation 25665bd5665a0ff9… (all of the seat's roots in one cut). By AI agents, Wed Nov 11 2026. No macro, syntax, notation, axiom, sorry.
-/
import Derived.Test.YtekabbefflclaaaChecked
import GoSem.Claim
import GoSem.ClaimJoined
import GoSem.ClaimMapViews
import Derived.JoinedTies
import Derived.KernelRfl
namespace Go.Proofs.Ytekabbefflclaaa
/- THE CELL 'sum', in the pinned program and in every row, IS THE sha256 OF THE DUMP (.gsa) THAT YtekabbefflclaaaProg.lean LOADS. Nothing in Lean hashes anything: it is a label: what it is worth is what the hold of that sum in a sandbox is worth. -/
noncomputable def Try.pinned : Pinned := { name := "ytekabbefflclaaa", sum := "25665bd5665a0ff968184c56c89b2f4f63f75e6aebaf79370de4929e7bef9a06", checked := Try.checked }
namespace Rows
def none {H : Type} : Left H := { results := [], args := [] }

/-- 'laws.FnExactCountAllCuts': WHATEVER THE INPUT: true; the input reads as it did. -/
def fnExactCountAllCutsSpec : ChangeSpec := { name := "fnExactCountAllCuts", fn := fun _ => fun
  | [d] => { results := [.lit (.bool true)], args := [d] }
  | _ => none }
def fnExactCountAllCutsRow : OpenClaim := { program := "ytekabbefflclaaa", sum := "25665bd5665a0ff968184c56c89b2f4f63f75e6aebaf79370de4929e7bef9a06", func := "loop.example/g01334/laws.FnExactCountAllCuts", spec := "fnExactCountAllCuts", unfollowed := true, recurses := true, plainKeys := false, apart := false }
def FnExactCountAllCutsSaid : Prop := fnExactCountAllCutsRow.holds Try.pinned (OpenSpec.ofChange fnExactCountAllCutsSpec)

/-- ITS FALSE NEIGHBOUR: 'it returns false'. Refute it at one input. -/
def fnExactCountAllCutsWrong : ChangeSpec := { name := "fnExactCountAllCuts", fn := fun _ => fun
  | [d] => { results := [.lit (.bool false)], args := [d] }
  | _ => none }
def FnExactCountAllCutsWrongFalsely : Prop := fnExactCountAllCutsRow.holds Try.pinned (OpenSpec.ofChange fnExactCountAllCutsWrong)

/-- 'laws.FnExactBestRodValue': WHATEVER THE INPUT: true; the input reads as it did. -/
def fnExactBestRodValueSpec : ChangeSpec := { name := "fnExactBestRodValue", fn := fun _ => fun
  | [d1, d2] => { results := [.lit (.bool true)], args := [d1, d2] }
  | _ => none }
def fnExactBestRodValueRow : OpenClaim := { program := "ytekabbefflclaaa", sum := "25665bd5665a0ff968184c56c89b2f4f63f75e6aebaf79370de4929e7bef9a06", func := "loop.example/g01334/laws.FnExactBestRodValue", spec := "fnExactBestRodValue", unfollowed := true, recurses := true, plainKeys := false, apart := false }
def FnExactBestRodValueSaid : Prop := fnExactBestRodValueRow.holds Try.pinned (OpenSpec.ofChange fnExactBestRodValueSpec)

/-- ITS FALSE NEIGHBOUR: 'it returns false'. Refute it at one input. -/
def fnExactBestRodValueWrong : ChangeSpec := { name := "fnExactBestRodValue", fn := fun _ => fun
  | [d1, d2] => { results := [.lit (.bool false)], args := [d1, d2] }
  | _ => none }
def FnExactBestRodValueWrongFalsely : Prop := fnExactBestRodValueRow.holds Try.pinned (OpenSpec.ofChange fnExactBestRodValueWrong)

/-- 'laws.FnExactCountBestCuts': WHATEVER THE INPUT: true; the input reads as it did. -/
def fnExactCountBestCutsSpec : ChangeSpec := { name := "fnExactCountBestCuts", fn := fun _ => fun
  | [d1, d2] => { results := [.lit (.bool true)], args := [d1, d2] }
  | _ => none }
def fnExactCountBestCutsRow : OpenClaim := { program := "ytekabbefflclaaa", sum := "25665bd5665a0ff968184c56c89b2f4f63f75e6aebaf79370de4929e7bef9a06", func := "loop.example/g01334/laws.FnExactCountBestCuts", spec := "fnExactCountBestCuts", unfollowed := true, recurses := true, plainKeys := false, apart := false }
def FnExactCountBestCutsSaid : Prop := fnExactCountBestCutsRow.holds Try.pinned (OpenSpec.ofChange fnExactCountBestCutsSpec)

/-- ITS FALSE NEIGHBOUR: 'it returns false'. Refute it at one input. -/
def fnExactCountBestCutsWrong : ChangeSpec := { name := "fnExactCountBestCuts", fn := fun _ => fun
  | [d1, d2] => { results := [.lit (.bool false)], args := [d1, d2] }
  | _ => none }
def FnExactCountBestCutsWrongFalsely : Prop := fnExactCountBestCutsRow.holds Try.pinned (OpenSpec.ofChange fnExactCountBestCutsWrong)

/-- 'laws.FnExactFirstBestCut': WHATEVER THE INPUT: true; the input reads as it did. -/
def fnExactFirstBestCutSpec : ChangeSpec := { name := "fnExactFirstBestCut", fn := fun _ => fun
  | [d1, d2] => { results := [.lit (.bool true)], args := [d1, d2] }
  | _ => none }
def fnExactFirstBestCutRow : OpenClaim := { program := "ytekabbefflclaaa", sum := "25665bd5665a0ff968184c56c89b2f4f63f75e6aebaf79370de4929e7bef9a06", func := "loop.example/g01334/laws.FnExactFirstBestCut", spec := "fnExactFirstBestCut", unfollowed := true, recurses := true, plainKeys := false, apart := false }
def FnExactFirstBestCutSaid : Prop := fnExactFirstBestCutRow.holds Try.pinned (OpenSpec.ofChange fnExactFirstBestCutSpec)

/-- ITS FALSE NEIGHBOUR: 'it returns false'. Refute it at one input. -/
def fnExactFirstBestCutWrong : ChangeSpec := { name := "fnExactFirstBestCut", fn := fun _ => fun
  | [d1, d2] => { results := [.lit (.bool false)], args := [d1, d2] }
  | _ => none }
def FnExactFirstBestCutWrongFalsely : Prop := fnExactFirstBestCutRow.holds Try.pinned (OpenSpec.ofChange fnExactFirstBestCutWrong)

/- THE SECOND FORM. 'bulk': how many values and letters a reading holds, each counted each time it is reached (what is shared counts as often as it is met; a slice's spare places count too). A statement '..UptoSaid' is the law's where the arguments, and the package variables that the reading takes, are together of bulk at most 1048576: NARROWER than '..Said'. Prove '..Said' where nothing that the law and all that it calls make is longer than what came in: it says more and counts as full. Else prove '..UptoSaid'. A law counts once. -/
mutual
def uptoBulk {H : Type} : DataW H → Nat
  | .lit (.string bytes) => bytes.length + 1
  | .lit _ => 1
  | .nil => 1
  | .ptr d => uptoBulk d + 1
  | .slice elems spare => uptoBulkAll elems + uptoBulkAll spare + 1
  | .agg parts => uptoBulkAll parts + 1
  | .iface _ d => uptoBulk d + 1
  | .map entries => uptoBulkEntries entries + 1
  | .held _ => 1
def uptoBulkAll {H : Type} : List (DataW H) → Nat
  | [] => 0
  | d :: r => uptoBulk d + uptoBulkAll r
def uptoBulkEntries {H : Type} : List (Lit × DataW H) → Nat
  | [] => 0
  | x :: r => uptoBulkEntry x + uptoBulkEntries r
def uptoBulkEntry {H : Type} : Lit × DataW H → Nat
  | (.string bytes, d) => bytes.length + uptoBulk d + 1
  | (_, d) => uptoBulk d + 1
 end
def uptoSmall : (H : Type) → List (DataW H) → Bool := fun _ ds => decide (uptoBulkAll ds ≤ 1048576)
def OpenSpec.upto (s : _root_.Go.ChangeSpec) : _root_.Go.OpenSpec := { _root_.Go.OpenSpec.ofChange s with cond := some uptoSmall }

/-- 'laws.FnExactCountAllCuts', WHERE WHAT IT READS IS OF BULK AT MOST 1048576: true; the input reads as it did. -/
def fnExactCountAllCutsUptoRow : OpenClaim := { program := "ytekabbefflclaaa", sum := "25665bd5665a0ff968184c56c89b2f4f63f75e6aebaf79370de4929e7bef9a06", func := "loop.example/g01334/laws.FnExactCountAllCuts", spec := "fnExactCountAllCuts", unfollowed := true, recurses := true, plainKeys := false, apart := false, narrowed := true }
def FnExactCountAllCutsUptoSaid : Prop := fnExactCountAllCutsUptoRow.holds Try.pinned (OpenSpec.upto fnExactCountAllCutsSpec)

/-- 'laws.FnExactBestRodValue', WHERE WHAT IT READS IS OF BULK AT MOST 1048576: true; the input reads as it did. -/
def fnExactBestRodValueUptoRow : OpenClaim := { program := "ytekabbefflclaaa", sum := "25665bd5665a0ff968184c56c89b2f4f63f75e6aebaf79370de4929e7bef9a06", func := "loop.example/g01334/laws.FnExactBestRodValue", spec := "fnExactBestRodValue", unfollowed := true, recurses := true, plainKeys := false, apart := false, narrowed := true }
def FnExactBestRodValueUptoSaid : Prop := fnExactBestRodValueUptoRow.holds Try.pinned (OpenSpec.upto fnExactBestRodValueSpec)

/-- 'laws.FnExactCountBestCuts', WHERE WHAT IT READS IS OF BULK AT MOST 1048576: true; the input reads as it did. -/
def fnExactCountBestCutsUptoRow : OpenClaim := { program := "ytekabbefflclaaa", sum := "25665bd5665a0ff968184c56c89b2f4f63f75e6aebaf79370de4929e7bef9a06", func := "loop.example/g01334/laws.FnExactCountBestCuts", spec := "fnExactCountBestCuts", unfollowed := true, recurses := true, plainKeys := false, apart := false, narrowed := true }
def FnExactCountBestCutsUptoSaid : Prop := fnExactCountBestCutsUptoRow.holds Try.pinned (OpenSpec.upto fnExactCountBestCutsSpec)

/-- 'laws.FnExactFirstBestCut', WHERE WHAT IT READS IS OF BULK AT MOST 1048576: true; the input reads as it did. -/
def fnExactFirstBestCutUptoRow : OpenClaim := { program := "ytekabbefflclaaa", sum := "25665bd5665a0ff968184c56c89b2f4f63f75e6aebaf79370de4929e7bef9a06", func := "loop.example/g01334/laws.FnExactFirstBestCut", spec := "fnExactFirstBestCut", unfollowed := true, recurses := true, plainKeys := false, apart := false, narrowed := true }
def FnExactFirstBestCutUptoSaid : Prop := fnExactFirstBestCutUptoRow.holds Try.pinned (OpenSpec.upto fnExactFirstBestCutSpec)

end Rows
end Go.Proofs.Ytekabbefflclaaa
