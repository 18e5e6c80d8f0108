/-
  NARROWER THAN 'FOR EVERY INPUT', by the rows' own cells (each row's printed sentence says how): FnExactAfterStop: laid · FnExactExtraBySorting: laid · FnExactExtraMoves: laid · FnExactBestLoading: laid · FnExactIsFreeLoading: laid · FnExactCountFree: laid.
  DERIVED. THE GIVEN ROWS OF THIS SEAT. 6 by the template 'for every input the law returns true; each argument reads behind the call as it read before'; 0 by the template 'total and deterministic' (their statements: YtbjjmnnbkaoajaaDoorTotals.lean).
  GIVEN WITH THE SEED: the statements are not yours to turn. If you find one false, say at which input.
  Laid BY PROGRAM, IN A SANDBOX (cutbox-rows.mjs): the forced cells as the released guide's own fill.sh prints them over the translation 43ac1592f7dc6596… (all of the seat's roots in one cut). By AI agents, Wed Nov 11 2026. No macro, syntax, notation, axiom, sorry.
-/
import Derived.Test.YtbjjmnnbkaoajaaDoorChecked
import GoSem.PinnedTables
import GoSem.Claim
import GoSem.ClaimJoined
import GoSem.ClaimMapViews
import Derived.JoinedTies
import Derived.KernelRfl
namespace Go.Proofs.YtbjjmnnbkaoajaaDoor
/- THE CELL 'sum', in the pinned program and in every row, IS THE sha256 OF THE DUMP (.gsa) THAT YtbjjmnnbkaoajaaDoorProg.lean LOADS. Nothing in Lean hashes anything: it is a label: what it is worth is what the hold of that sum in a sandbox is worth. -/
noncomputable def Tryd.pinned : Pinned := { name := "ytbjjmnnbkaoajaadoor", sum := "43ac1592f7dc6596515f0c91f15c24c3515a222e34214600ef9912f4bf9e9611", checked := Tryd.checked }
namespace Rows
def none {H : Type} : Left H := { results := [], args := [] }

/- WHAT THE LISTED PACKAGE-LEVEL VARIABLES READ AS WHEN THE CALL BEGINS. Each datum BY PROGRAM (the guide's laid-datum.mjs) off the statement by which the dump's own 'gosem.cut.vars' lays the variable. In a bare row this is a premise. The card (YtbjjmnnbkaoajaaDoorCards.lean) ties it to the program's text. -/
def laid_unicode_utf8_acceptRanges {H : Type} : DataW H := .agg [.agg [.lit (.int .u8 128), .lit (.int .u8 191)], .agg [.lit (.int .u8 160), .lit (.int .u8 191)], .agg [.lit (.int .u8 128), .lit (.int .u8 159)], .agg [.lit (.int .u8 144), .lit (.int .u8 191)], .agg [.lit (.int .u8 128), .lit (.int .u8 143)], .agg [.lit (.int .u8 0), .lit (.int .u8 0)], .agg [.lit (.int .u8 0), .lit (.int .u8 0)], .agg [.lit (.int .u8 0), .lit (.int .u8 0)], .agg [.lit (.int .u8 0), .lit (.int .u8 0)], .agg [.lit (.int .u8 0), .lit (.int .u8 0)], .agg [.lit (.int .u8 0), .lit (.int .u8 0)], .agg [.lit (.int .u8 0), .lit (.int .u8 0)], .agg [.lit (.int .u8 0), .lit (.int .u8 0)], .agg [.lit (.int .u8 0), .lit (.int .u8 0)], .agg [.lit (.int .u8 0), .lit (.int .u8 0)], .agg [.lit (.int .u8 0), .lit (.int .u8 0)]]
/-- One of Go's own tables, pinned by name: the form's constant. -/
def laid_unicode_utf8_first : DataW Unit := Go.Pinned.utf8First

/-- 'laws.FnExactAfterStop': WHATEVER THE INPUT: true; the input reads as it did. -/
def fnExactAfterStopSpec : ChangeSpec := { name := "fnExactAfterStop", fn := fun _ => fun
  | [d1, d2] => { results := [.lit (.bool true)], args := [d1, d2] }
  | _ => none }
def fnExactAfterStopRow : OpenClaim := { program := "ytbjjmnnbkaoajaadoor", sum := "43ac1592f7dc6596515f0c91f15c24c3515a222e34214600ef9912f4bf9e9611", func := "loop.example/g01334/laws.FnExactAfterStop", spec := "fnExactAfterStop", inPlace := ["internal/bytealg.IndexByteString", "internal/bytealg.IndexString", "internal/bytealg.CountString", "internal/abi.NoEscape", "internal/bytealg.MakeNoZero"], recurses := true, named := ["unicode/utf8.first", "unicode/utf8.acceptRanges", "internal/bytealg.MaxLen"], apart := false, laid := [("unicode/utf8.acceptRanges", laid_unicode_utf8_acceptRanges), ("unicode/utf8.first", laid_unicode_utf8_first)] }
def FnExactAfterStopSaid : Prop := fnExactAfterStopRow.holds Tryd.pinned (OpenSpec.ofChange fnExactAfterStopSpec)

/-- ITS FALSE NEIGHBOUR: 'it returns false'. Refute it at one input. -/
def fnExactAfterStopWrong : ChangeSpec := { name := "fnExactAfterStop", fn := fun _ => fun
  | [d1, d2] => { results := [.lit (.bool false)], args := [d1, d2] }
  | _ => none }
def FnExactAfterStopWrongFalsely : Prop := fnExactAfterStopRow.holds Tryd.pinned (OpenSpec.ofChange fnExactAfterStopWrong)

/-- 'laws.FnExactExtraBySorting': WHATEVER THE INPUT: true; the input reads as it did. -/
def fnExactExtraBySortingSpec : ChangeSpec := { name := "fnExactExtraBySorting", fn := fun _ => fun
  | [d] => { results := [.lit (.bool true)], args := [d] }
  | _ => none }
def fnExactExtraBySortingRow : OpenClaim := { program := "ytbjjmnnbkaoajaadoor", sum := "43ac1592f7dc6596515f0c91f15c24c3515a222e34214600ef9912f4bf9e9611", func := "loop.example/g01334/laws.FnExactExtraBySorting", spec := "fnExactExtraBySorting", inPlace := ["internal/bytealg.IndexByteString", "internal/bytealg.IndexString", "internal/bytealg.CountString", "internal/abi.NoEscape", "internal/bytealg.MakeNoZero"], recurses := true, named := ["unicode/utf8.first", "unicode/utf8.acceptRanges", "internal/bytealg.MaxLen"], apart := false, laid := [("unicode/utf8.acceptRanges", laid_unicode_utf8_acceptRanges), ("unicode/utf8.first", laid_unicode_utf8_first)] }
def FnExactExtraBySortingSaid : Prop := fnExactExtraBySortingRow.holds Tryd.pinned (OpenSpec.ofChange fnExactExtraBySortingSpec)

/-- ITS FALSE NEIGHBOUR: 'it returns false'. Refute it at one input. -/
def fnExactExtraBySortingWrong : ChangeSpec := { name := "fnExactExtraBySorting", fn := fun _ => fun
  | [d] => { results := [.lit (.bool false)], args := [d] }
  | _ => none }
def FnExactExtraBySortingWrongFalsely : Prop := fnExactExtraBySortingRow.holds Tryd.pinned (OpenSpec.ofChange fnExactExtraBySortingWrong)

/-- 'laws.FnExactExtraMoves': WHATEVER THE INPUT: true; the input reads as it did. -/
def fnExactExtraMovesSpec : ChangeSpec := { name := "fnExactExtraMoves", fn := fun _ => fun
  | [d] => { results := [.lit (.bool true)], args := [d] }
  | _ => none }
def fnExactExtraMovesRow : OpenClaim := { program := "ytbjjmnnbkaoajaadoor", sum := "43ac1592f7dc6596515f0c91f15c24c3515a222e34214600ef9912f4bf9e9611", func := "loop.example/g01334/laws.FnExactExtraMoves", spec := "fnExactExtraMoves", inPlace := ["internal/bytealg.IndexByteString", "internal/bytealg.IndexString", "internal/bytealg.CountString", "internal/abi.NoEscape", "internal/bytealg.MakeNoZero"], recurses := true, named := ["unicode/utf8.first", "unicode/utf8.acceptRanges", "internal/bytealg.MaxLen"], apart := false, laid := [("unicode/utf8.acceptRanges", laid_unicode_utf8_acceptRanges), ("unicode/utf8.first", laid_unicode_utf8_first)] }
def FnExactExtraMovesSaid : Prop := fnExactExtraMovesRow.holds Tryd.pinned (OpenSpec.ofChange fnExactExtraMovesSpec)

/-- ITS FALSE NEIGHBOUR: 'it returns false'. Refute it at one input. -/
def fnExactExtraMovesWrong : ChangeSpec := { name := "fnExactExtraMoves", fn := fun _ => fun
  | [d] => { results := [.lit (.bool false)], args := [d] }
  | _ => none }
def FnExactExtraMovesWrongFalsely : Prop := fnExactExtraMovesRow.holds Tryd.pinned (OpenSpec.ofChange fnExactExtraMovesWrong)

/-- 'laws.FnExactBestLoading': WHATEVER THE INPUT: true; the input reads as it did. -/
def fnExactBestLoadingSpec : ChangeSpec := { name := "fnExactBestLoading", fn := fun _ => fun
  | [d] => { results := [.lit (.bool true)], args := [d] }
  | _ => none }
def fnExactBestLoadingRow : OpenClaim := { program := "ytbjjmnnbkaoajaadoor", sum := "43ac1592f7dc6596515f0c91f15c24c3515a222e34214600ef9912f4bf9e9611", func := "loop.example/g01334/laws.FnExactBestLoading", spec := "fnExactBestLoading", inPlace := ["internal/bytealg.IndexByteString", "internal/bytealg.IndexString"], recurses := true, named := ["unicode/utf8.first", "unicode/utf8.acceptRanges", "internal/bytealg.MaxLen"], apart := false, laid := [("unicode/utf8.acceptRanges", laid_unicode_utf8_acceptRanges), ("unicode/utf8.first", laid_unicode_utf8_first)] }
def FnExactBestLoadingSaid : Prop := fnExactBestLoadingRow.holds Tryd.pinned (OpenSpec.ofChange fnExactBestLoadingSpec)

/-- ITS FALSE NEIGHBOUR: 'it returns false'. Refute it at one input. -/
def fnExactBestLoadingWrong : ChangeSpec := { name := "fnExactBestLoading", fn := fun _ => fun
  | [d] => { results := [.lit (.bool false)], args := [d] }
  | _ => none }
def FnExactBestLoadingWrongFalsely : Prop := fnExactBestLoadingRow.holds Tryd.pinned (OpenSpec.ofChange fnExactBestLoadingWrong)

/-- 'laws.FnExactIsFreeLoading': WHATEVER THE INPUT: true; the input reads as it did. -/
def fnExactIsFreeLoadingSpec : ChangeSpec := { name := "fnExactIsFreeLoading", fn := fun _ => fun
  | [d] => { results := [.lit (.bool true)], args := [d] }
  | _ => none }
def fnExactIsFreeLoadingRow : OpenClaim := { program := "ytbjjmnnbkaoajaadoor", sum := "43ac1592f7dc6596515f0c91f15c24c3515a222e34214600ef9912f4bf9e9611", func := "loop.example/g01334/laws.FnExactIsFreeLoading", spec := "fnExactIsFreeLoading", inPlace := ["internal/bytealg.IndexByteString", "internal/bytealg.IndexString", "internal/bytealg.CountString", "internal/abi.NoEscape", "internal/bytealg.MakeNoZero"], recurses := true, named := ["unicode/utf8.first", "unicode/utf8.acceptRanges", "internal/bytealg.MaxLen"], apart := false, laid := [("unicode/utf8.acceptRanges", laid_unicode_utf8_acceptRanges), ("unicode/utf8.first", laid_unicode_utf8_first)] }
def FnExactIsFreeLoadingSaid : Prop := fnExactIsFreeLoadingRow.holds Tryd.pinned (OpenSpec.ofChange fnExactIsFreeLoadingSpec)

/-- ITS FALSE NEIGHBOUR: 'it returns false'. Refute it at one input. -/
def fnExactIsFreeLoadingWrong : ChangeSpec := { name := "fnExactIsFreeLoading", fn := fun _ => fun
  | [d] => { results := [.lit (.bool false)], args := [d] }
  | _ => none }
def FnExactIsFreeLoadingWrongFalsely : Prop := fnExactIsFreeLoadingRow.holds Tryd.pinned (OpenSpec.ofChange fnExactIsFreeLoadingWrong)

/-- 'laws.FnExactCountFree': WHATEVER THE INPUT: true; the input reads as it did. -/
def fnExactCountFreeSpec : ChangeSpec := { name := "fnExactCountFree", fn := fun _ => fun
  | [d] => { results := [.lit (.bool true)], args := [d] }
  | _ => none }
def fnExactCountFreeRow : OpenClaim := { program := "ytbjjmnnbkaoajaadoor", sum := "43ac1592f7dc6596515f0c91f15c24c3515a222e34214600ef9912f4bf9e9611", func := "loop.example/g01334/laws.FnExactCountFree", spec := "fnExactCountFree", inPlace := ["internal/bytealg.IndexByteString", "internal/bytealg.IndexString", "internal/bytealg.CountString", "internal/abi.NoEscape", "internal/bytealg.MakeNoZero"], recurses := true, named := ["unicode/utf8.first", "unicode/utf8.acceptRanges", "internal/bytealg.MaxLen"], apart := false, laid := [("unicode/utf8.acceptRanges", laid_unicode_utf8_acceptRanges), ("unicode/utf8.first", laid_unicode_utf8_first)] }
def FnExactCountFreeSaid : Prop := fnExactCountFreeRow.holds Tryd.pinned (OpenSpec.ofChange fnExactCountFreeSpec)

/-- ITS FALSE NEIGHBOUR: 'it returns false'. Refute it at one input. -/
def fnExactCountFreeWrong : ChangeSpec := { name := "fnExactCountFree", fn := fun _ => fun
  | [d] => { results := [.lit (.bool false)], args := [d] }
  | _ => none }
def FnExactCountFreeWrongFalsely : Prop := fnExactCountFreeRow.holds Tryd.pinned (OpenSpec.ofChange fnExactCountFreeWrong)

/- THE SECOND FORM. 'bulk': how many values and letters a reading holds, each counted each time it is reached (what is shared counts as often as it is met; a slice's spare places count too). A statement '..UptoSaid' is the law's where the arguments, and the package variables that the reading takes, are together of bulk at most 1048576: NARROWER than '..Said'. Prove '..Said' where nothing that the law and all that it calls make is longer than what came in: it says more and counts as full. Else prove '..UptoSaid'. A law counts once. -/
mutual
def uptoBulk {H : Type} : DataW H → Nat
  | .lit (.string bytes) => bytes.length + 1
  | .lit _ => 1
  | .nil => 1
  | .ptr d => uptoBulk d + 1
  | .slice elems spare => uptoBulkAll elems + uptoBulkAll spare + 1
  | .agg parts => uptoBulkAll parts + 1
  | .iface _ d => uptoBulk d + 1
  | .map entries => uptoBulkEntries entries + 1
  | .held _ => 1
def uptoBulkAll {H : Type} : List (DataW H) → Nat
  | [] => 0
  | d :: r => uptoBulk d + uptoBulkAll r
def uptoBulkEntries {H : Type} : List (Lit × DataW H) → Nat
  | [] => 0
  | x :: r => uptoBulkEntry x + uptoBulkEntries r
def uptoBulkEntry {H : Type} : Lit × DataW H → Nat
  | (.string bytes, d) => bytes.length + uptoBulk d + 1
  | (_, d) => uptoBulk d + 1
 end
def uptoSmall : (H : Type) → List (DataW H) → Bool := fun _ ds => decide (uptoBulkAll ds ≤ 1048576)
def OpenSpec.upto (s : _root_.Go.ChangeSpec) : _root_.Go.OpenSpec := { _root_.Go.OpenSpec.ofChange s with cond := some uptoSmall }

/-- 'laws.FnExactAfterStop', WHERE WHAT IT READS IS OF BULK AT MOST 1048576: true; the input reads as it did. -/
def fnExactAfterStopUptoRow : OpenClaim := { program := "ytbjjmnnbkaoajaadoor", sum := "43ac1592f7dc6596515f0c91f15c24c3515a222e34214600ef9912f4bf9e9611", func := "loop.example/g01334/laws.FnExactAfterStop", spec := "fnExactAfterStop", inPlace := ["internal/bytealg.IndexByteString", "internal/bytealg.IndexString", "internal/bytealg.CountString", "internal/abi.NoEscape", "internal/bytealg.MakeNoZero"], recurses := true, named := ["unicode/utf8.first", "unicode/utf8.acceptRanges", "internal/bytealg.MaxLen"], apart := false, laid := [("unicode/utf8.acceptRanges", laid_unicode_utf8_acceptRanges), ("unicode/utf8.first", laid_unicode_utf8_first)], narrowed := true }
def FnExactAfterStopUptoSaid : Prop := fnExactAfterStopUptoRow.holds Tryd.pinned (OpenSpec.upto fnExactAfterStopSpec)

/-- 'laws.FnExactExtraBySorting', WHERE WHAT IT READS IS OF BULK AT MOST 1048576: true; the input reads as it did. -/
def fnExactExtraBySortingUptoRow : OpenClaim := { program := "ytbjjmnnbkaoajaadoor", sum := "43ac1592f7dc6596515f0c91f15c24c3515a222e34214600ef9912f4bf9e9611", func := "loop.example/g01334/laws.FnExactExtraBySorting", spec := "fnExactExtraBySorting", inPlace := ["internal/bytealg.IndexByteString", "internal/bytealg.IndexString", "internal/bytealg.CountString", "internal/abi.NoEscape", "internal/bytealg.MakeNoZero"], recurses := true, named := ["unicode/utf8.first", "unicode/utf8.acceptRanges", "internal/bytealg.MaxLen"], apart := false, laid := [("unicode/utf8.acceptRanges", laid_unicode_utf8_acceptRanges), ("unicode/utf8.first", laid_unicode_utf8_first)], narrowed := true }
def FnExactExtraBySortingUptoSaid : Prop := fnExactExtraBySortingUptoRow.holds Tryd.pinned (OpenSpec.upto fnExactExtraBySortingSpec)

/-- 'laws.FnExactExtraMoves', WHERE WHAT IT READS IS OF BULK AT MOST 1048576: true; the input reads as it did. -/
def fnExactExtraMovesUptoRow : OpenClaim := { program := "ytbjjmnnbkaoajaadoor", sum := "43ac1592f7dc6596515f0c91f15c24c3515a222e34214600ef9912f4bf9e9611", func := "loop.example/g01334/laws.FnExactExtraMoves", spec := "fnExactExtraMoves", inPlace := ["internal/bytealg.IndexByteString", "internal/bytealg.IndexString", "internal/bytealg.CountString", "internal/abi.NoEscape", "internal/bytealg.MakeNoZero"], recurses := true, named := ["unicode/utf8.first", "unicode/utf8.acceptRanges", "internal/bytealg.MaxLen"], apart := false, laid := [("unicode/utf8.acceptRanges", laid_unicode_utf8_acceptRanges), ("unicode/utf8.first", laid_unicode_utf8_first)], narrowed := true }
def FnExactExtraMovesUptoSaid : Prop := fnExactExtraMovesUptoRow.holds Tryd.pinned (OpenSpec.upto fnExactExtraMovesSpec)

/-- 'laws.FnExactBestLoading', WHERE WHAT IT READS IS OF BULK AT MOST 1048576: true; the input reads as it did. -/
def fnExactBestLoadingUptoRow : OpenClaim := { program := "ytbjjmnnbkaoajaadoor", sum := "43ac1592f7dc6596515f0c91f15c24c3515a222e34214600ef9912f4bf9e9611", func := "loop.example/g01334/laws.FnExactBestLoading", spec := "fnExactBestLoading", inPlace := ["internal/bytealg.IndexByteString", "internal/bytealg.IndexString"], recurses := true, named := ["unicode/utf8.first", "unicode/utf8.acceptRanges", "internal/bytealg.MaxLen"], apart := false, laid := [("unicode/utf8.acceptRanges", laid_unicode_utf8_acceptRanges), ("unicode/utf8.first", laid_unicode_utf8_first)], narrowed := true }
def FnExactBestLoadingUptoSaid : Prop := fnExactBestLoadingUptoRow.holds Tryd.pinned (OpenSpec.upto fnExactBestLoadingSpec)

/-- 'laws.FnExactIsFreeLoading', WHERE WHAT IT READS IS OF BULK AT MOST 1048576: true; the input reads as it did. -/
def fnExactIsFreeLoadingUptoRow : OpenClaim := { program := "ytbjjmnnbkaoajaadoor", sum := "43ac1592f7dc6596515f0c91f15c24c3515a222e34214600ef9912f4bf9e9611", func := "loop.example/g01334/laws.FnExactIsFreeLoading", spec := "fnExactIsFreeLoading", inPlace := ["internal/bytealg.IndexByteString", "internal/bytealg.IndexString", "internal/bytealg.CountString", "internal/abi.NoEscape", "internal/bytealg.MakeNoZero"], recurses := true, named := ["unicode/utf8.first", "unicode/utf8.acceptRanges", "internal/bytealg.MaxLen"], apart := false, laid := [("unicode/utf8.acceptRanges", laid_unicode_utf8_acceptRanges), ("unicode/utf8.first", laid_unicode_utf8_first)], narrowed := true }
def FnExactIsFreeLoadingUptoSaid : Prop := fnExactIsFreeLoadingUptoRow.holds Tryd.pinned (OpenSpec.upto fnExactIsFreeLoadingSpec)

/-- 'laws.FnExactCountFree', WHERE WHAT IT READS IS OF BULK AT MOST 1048576: true; the input reads as it did. -/
def fnExactCountFreeUptoRow : OpenClaim := { program := "ytbjjmnnbkaoajaadoor", sum := "43ac1592f7dc6596515f0c91f15c24c3515a222e34214600ef9912f4bf9e9611", func := "loop.example/g01334/laws.FnExactCountFree", spec := "fnExactCountFree", inPlace := ["internal/bytealg.IndexByteString", "internal/bytealg.IndexString", "internal/bytealg.CountString", "internal/abi.NoEscape", "internal/bytealg.MakeNoZero"], recurses := true, named := ["unicode/utf8.first", "unicode/utf8.acceptRanges", "internal/bytealg.MaxLen"], apart := false, laid := [("unicode/utf8.acceptRanges", laid_unicode_utf8_acceptRanges), ("unicode/utf8.first", laid_unicode_utf8_first)], narrowed := true }
def FnExactCountFreeUptoSaid : Prop := fnExactCountFreeUptoRow.holds Tryd.pinned (OpenSpec.upto fnExactCountFreeSpec)

end Rows
end Go.Proofs.YtbjjmnnbkaoajaaDoor
