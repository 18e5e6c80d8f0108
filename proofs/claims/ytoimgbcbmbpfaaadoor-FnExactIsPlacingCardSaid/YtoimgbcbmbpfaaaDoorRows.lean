/-
  NARROWER THAN 'FOR EVERY INPUT', by the rows' own cells (each row's printed sentence says how): FnExactIsLoading: laid · FnExactFirstServed: laid · FnExactCountLoadings: laid · FnExactIsTour: laid · FnExactFewestPlaces: laid · FnExactStopsOf: laid · FnExactFixTour: laid · FnExactPlacesOfBoxes: laid · FnExactIsPlacing: laid · FnExactIsServed: laid · FnExactOpenAfter: laid · FnExactFullestOf: laid · FnExactBackTour: laid.
  DERIVED. THE GIVEN ROWS OF THIS SEAT. 13 by the template 'for every input the law returns true; each argument reads behind the call as it read before'; 0 by the template 'total and deterministic' (their statements: YtoimgbcbmbpfaaaDoorTotals.lean).
  GIVEN WITH THE SEED: the statements are not yours to turn. If you find one false, say at which input.
  Laid BY PROGRAM, IN A SANDBOX (cutbox-rows.mjs): the forced cells as the released guide's own fill.sh prints them over the translation f5dca13ddcb9fa87… (all of the seat's roots in one cut). By AI agents, Wed Nov 11 2026. No macro, syntax, notation, axiom, sorry.
-/
import Derived.Test.YtoimgbcbmbpfaaaDoorChecked
import GoSem.PinnedTables
import GoSem.Claim
import GoSem.ClaimJoined
import GoSem.ClaimMapViews
import Derived.JoinedTies
import Derived.KernelRfl
namespace Go.Proofs.YtoimgbcbmbpfaaaDoor
/- THE CELL 'sum', in the pinned program and in every row, IS THE sha256 OF THE DUMP (.gsa) THAT YtoimgbcbmbpfaaaDoorProg.lean LOADS. Nothing in Lean hashes anything: it is a label: what it is worth is what the hold of that sum in a sandbox is worth. -/
noncomputable def Tryd.pinned : Pinned := { name := "ytoimgbcbmbpfaaadoor", sum := "f5dca13ddcb9fa879397513249c861a3479f87cedcd272584993a113c12c0904", checked := Tryd.checked }
namespace Rows
def none {H : Type} : Left H := { results := [], args := [] }

/- WHAT THE LISTED PACKAGE-LEVEL VARIABLES READ AS WHEN THE CALL BEGINS. Each datum BY PROGRAM (the guide's laid-datum.mjs) off the statement by which the dump's own 'gosem.cut.vars' lays the variable. In a bare row this is a premise. The card (YtoimgbcbmbpfaaaDoorCards.lean) ties it to the program's text. -/
def laid_unicode_utf8_acceptRanges {H : Type} : DataW H := .agg [.agg [.lit (.int .u8 128), .lit (.int .u8 191)], .agg [.lit (.int .u8 160), .lit (.int .u8 191)], .agg [.lit (.int .u8 128), .lit (.int .u8 159)], .agg [.lit (.int .u8 144), .lit (.int .u8 191)], .agg [.lit (.int .u8 128), .lit (.int .u8 143)], .agg [.lit (.int .u8 0), .lit (.int .u8 0)], .agg [.lit (.int .u8 0), .lit (.int .u8 0)], .agg [.lit (.int .u8 0), .lit (.int .u8 0)], .agg [.lit (.int .u8 0), .lit (.int .u8 0)], .agg [.lit (.int .u8 0), .lit (.int .u8 0)], .agg [.lit (.int .u8 0), .lit (.int .u8 0)], .agg [.lit (.int .u8 0), .lit (.int .u8 0)], .agg [.lit (.int .u8 0), .lit (.int .u8 0)], .agg [.lit (.int .u8 0), .lit (.int .u8 0)], .agg [.lit (.int .u8 0), .lit (.int .u8 0)], .agg [.lit (.int .u8 0), .lit (.int .u8 0)]]
/-- One of Go's own tables, pinned by name: the form's constant. -/
def laid_unicode_utf8_first : DataW Unit := Go.Pinned.utf8First

/-- 'laws.FnExactIsLoading': WHATEVER THE INPUT: true; the input reads as it did. -/
def fnExactIsLoadingSpec : ChangeSpec := { name := "fnExactIsLoading", fn := fun _ => fun
  | [d] => { results := [.lit (.bool true)], args := [d] }
  | _ => none }
def fnExactIsLoadingRow : OpenClaim := { program := "ytoimgbcbmbpfaaadoor", sum := "f5dca13ddcb9fa879397513249c861a3479f87cedcd272584993a113c12c0904", func := "loop.example/g01334/laws.FnExactIsLoading", spec := "fnExactIsLoading", inPlace := ["internal/bytealg.IndexByteString", "internal/bytealg.IndexString"], named := ["unicode/utf8.first", "unicode/utf8.acceptRanges", "internal/bytealg.MaxLen"], apart := false, laid := [("unicode/utf8.acceptRanges", laid_unicode_utf8_acceptRanges), ("unicode/utf8.first", laid_unicode_utf8_first)] }
def FnExactIsLoadingSaid : Prop := fnExactIsLoadingRow.holds Tryd.pinned (OpenSpec.ofChange fnExactIsLoadingSpec)

/-- ITS FALSE NEIGHBOUR: 'it returns false'. Refute it at one input. -/
def fnExactIsLoadingWrong : ChangeSpec := { name := "fnExactIsLoading", fn := fun _ => fun
  | [d] => { results := [.lit (.bool false)], args := [d] }
  | _ => none }
def FnExactIsLoadingWrongFalsely : Prop := fnExactIsLoadingRow.holds Tryd.pinned (OpenSpec.ofChange fnExactIsLoadingWrong)

/-- 'laws.FnExactFirstServed': WHATEVER THE INPUT: true; the input reads as it did. -/
def fnExactFirstServedSpec : ChangeSpec := { name := "fnExactFirstServed", fn := fun _ => fun
  | [d] => { results := [.lit (.bool true)], args := [d] }
  | _ => none }
def fnExactFirstServedRow : OpenClaim := { program := "ytoimgbcbmbpfaaadoor", sum := "f5dca13ddcb9fa879397513249c861a3479f87cedcd272584993a113c12c0904", func := "loop.example/g01334/laws.FnExactFirstServed", spec := "fnExactFirstServed", inPlace := ["internal/bytealg.IndexByteString", "internal/bytealg.IndexString"], named := ["unicode/utf8.first", "unicode/utf8.acceptRanges", "internal/bytealg.MaxLen"], apart := false, laid := [("unicode/utf8.acceptRanges", laid_unicode_utf8_acceptRanges), ("unicode/utf8.first", laid_unicode_utf8_first)] }
def FnExactFirstServedSaid : Prop := fnExactFirstServedRow.holds Tryd.pinned (OpenSpec.ofChange fnExactFirstServedSpec)

/-- ITS FALSE NEIGHBOUR: 'it returns false'. Refute it at one input. -/
def fnExactFirstServedWrong : ChangeSpec := { name := "fnExactFirstServed", fn := fun _ => fun
  | [d] => { results := [.lit (.bool false)], args := [d] }
  | _ => none }
def FnExactFirstServedWrongFalsely : Prop := fnExactFirstServedRow.holds Tryd.pinned (OpenSpec.ofChange fnExactFirstServedWrong)

/-- 'laws.FnExactCountLoadings': WHATEVER THE INPUT: true; the input reads as it did. -/
def fnExactCountLoadingsSpec : ChangeSpec := { name := "fnExactCountLoadings", fn := fun _ => fun
  | [d] => { results := [.lit (.bool true)], args := [d] }
  | _ => none }
def fnExactCountLoadingsRow : OpenClaim := { program := "ytoimgbcbmbpfaaadoor", sum := "f5dca13ddcb9fa879397513249c861a3479f87cedcd272584993a113c12c0904", func := "loop.example/g01334/laws.FnExactCountLoadings", spec := "fnExactCountLoadings", inPlace := ["internal/bytealg.IndexByteString", "internal/bytealg.IndexString"], named := ["unicode/utf8.first", "unicode/utf8.acceptRanges", "internal/bytealg.MaxLen"], apart := false, laid := [("unicode/utf8.acceptRanges", laid_unicode_utf8_acceptRanges), ("unicode/utf8.first", laid_unicode_utf8_first)] }
def FnExactCountLoadingsSaid : Prop := fnExactCountLoadingsRow.holds Tryd.pinned (OpenSpec.ofChange fnExactCountLoadingsSpec)

/-- ITS FALSE NEIGHBOUR: 'it returns false'. Refute it at one input. -/
def fnExactCountLoadingsWrong : ChangeSpec := { name := "fnExactCountLoadings", fn := fun _ => fun
  | [d] => { results := [.lit (.bool false)], args := [d] }
  | _ => none }
def FnExactCountLoadingsWrongFalsely : Prop := fnExactCountLoadingsRow.holds Tryd.pinned (OpenSpec.ofChange fnExactCountLoadingsWrong)

/-- 'laws.FnExactIsTour': WHATEVER THE INPUT: true; the input reads as it did. -/
def fnExactIsTourSpec : ChangeSpec := { name := "fnExactIsTour", fn := fun _ => fun
  | [d] => { results := [.lit (.bool true)], args := [d] }
  | _ => none }
def fnExactIsTourRow : OpenClaim := { program := "ytoimgbcbmbpfaaadoor", sum := "f5dca13ddcb9fa879397513249c861a3479f87cedcd272584993a113c12c0904", func := "loop.example/g01334/laws.FnExactIsTour", spec := "fnExactIsTour", inPlace := ["internal/bytealg.IndexByteString", "internal/bytealg.IndexString"], named := ["unicode/utf8.first", "unicode/utf8.acceptRanges", "internal/bytealg.MaxLen"], apart := false, laid := [("unicode/utf8.acceptRanges", laid_unicode_utf8_acceptRanges), ("unicode/utf8.first", laid_unicode_utf8_first)] }
def FnExactIsTourSaid : Prop := fnExactIsTourRow.holds Tryd.pinned (OpenSpec.ofChange fnExactIsTourSpec)

/-- ITS FALSE NEIGHBOUR: 'it returns false'. Refute it at one input. -/
def fnExactIsTourWrong : ChangeSpec := { name := "fnExactIsTour", fn := fun _ => fun
  | [d] => { results := [.lit (.bool false)], args := [d] }
  | _ => none }
def FnExactIsTourWrongFalsely : Prop := fnExactIsTourRow.holds Tryd.pinned (OpenSpec.ofChange fnExactIsTourWrong)

/-- 'laws.FnExactFewestPlaces': WHATEVER THE INPUT: true; the input reads as it did. -/
def fnExactFewestPlacesSpec : ChangeSpec := { name := "fnExactFewestPlaces", fn := fun _ => fun
  | [d] => { results := [.lit (.bool true)], args := [d] }
  | _ => none }
def fnExactFewestPlacesRow : OpenClaim := { program := "ytoimgbcbmbpfaaadoor", sum := "f5dca13ddcb9fa879397513249c861a3479f87cedcd272584993a113c12c0904", func := "loop.example/g01334/laws.FnExactFewestPlaces", spec := "fnExactFewestPlaces", inPlace := ["internal/bytealg.IndexByteString", "internal/bytealg.IndexString"], unfollowed := true, recurses := true, named := ["unicode/utf8.first", "unicode/utf8.acceptRanges", "internal/bytealg.MaxLen"], apart := false, laid := [("unicode/utf8.acceptRanges", laid_unicode_utf8_acceptRanges), ("unicode/utf8.first", laid_unicode_utf8_first)] }
def FnExactFewestPlacesSaid : Prop := fnExactFewestPlacesRow.holds Tryd.pinned (OpenSpec.ofChange fnExactFewestPlacesSpec)

/-- ITS FALSE NEIGHBOUR: 'it returns false'. Refute it at one input. -/
def fnExactFewestPlacesWrong : ChangeSpec := { name := "fnExactFewestPlaces", fn := fun _ => fun
  | [d] => { results := [.lit (.bool false)], args := [d] }
  | _ => none }
def FnExactFewestPlacesWrongFalsely : Prop := fnExactFewestPlacesRow.holds Tryd.pinned (OpenSpec.ofChange fnExactFewestPlacesWrong)

/-- 'laws.FnExactStopsOf': WHATEVER THE INPUT: true; the input reads as it did. -/
def fnExactStopsOfSpec : ChangeSpec := { name := "fnExactStopsOf", fn := fun _ => fun
  | [d] => { results := [.lit (.bool true)], args := [d] }
  | _ => none }
def fnExactStopsOfRow : OpenClaim := { program := "ytoimgbcbmbpfaaadoor", sum := "f5dca13ddcb9fa879397513249c861a3479f87cedcd272584993a113c12c0904", func := "loop.example/g01334/laws.FnExactStopsOf", spec := "fnExactStopsOf", inPlace := ["internal/bytealg.IndexByteString", "internal/bytealg.IndexString"], named := ["unicode/utf8.first", "unicode/utf8.acceptRanges", "internal/bytealg.MaxLen"], apart := false, laid := [("unicode/utf8.acceptRanges", laid_unicode_utf8_acceptRanges), ("unicode/utf8.first", laid_unicode_utf8_first)] }
def FnExactStopsOfSaid : Prop := fnExactStopsOfRow.holds Tryd.pinned (OpenSpec.ofChange fnExactStopsOfSpec)

/-- ITS FALSE NEIGHBOUR: 'it returns false'. Refute it at one input. -/
def fnExactStopsOfWrong : ChangeSpec := { name := "fnExactStopsOf", fn := fun _ => fun
  | [d] => { results := [.lit (.bool false)], args := [d] }
  | _ => none }
def FnExactStopsOfWrongFalsely : Prop := fnExactStopsOfRow.holds Tryd.pinned (OpenSpec.ofChange fnExactStopsOfWrong)

/-- 'laws.FnExactFixTour': WHATEVER THE INPUT: true; the input reads as it did. -/
def fnExactFixTourSpec : ChangeSpec := { name := "fnExactFixTour", fn := fun _ => fun
  | [d] => { results := [.lit (.bool true)], args := [d] }
  | _ => none }
def fnExactFixTourRow : OpenClaim := { program := "ytoimgbcbmbpfaaadoor", sum := "f5dca13ddcb9fa879397513249c861a3479f87cedcd272584993a113c12c0904", func := "loop.example/g01334/laws.FnExactFixTour", spec := "fnExactFixTour", inPlace := ["internal/bytealg.IndexByteString", "internal/bytealg.IndexString"], named := ["unicode/utf8.first", "unicode/utf8.acceptRanges", "internal/bytealg.MaxLen"], apart := false, laid := [("unicode/utf8.acceptRanges", laid_unicode_utf8_acceptRanges), ("unicode/utf8.first", laid_unicode_utf8_first)] }
def FnExactFixTourSaid : Prop := fnExactFixTourRow.holds Tryd.pinned (OpenSpec.ofChange fnExactFixTourSpec)

/-- ITS FALSE NEIGHBOUR: 'it returns false'. Refute it at one input. -/
def fnExactFixTourWrong : ChangeSpec := { name := "fnExactFixTour", fn := fun _ => fun
  | [d] => { results := [.lit (.bool false)], args := [d] }
  | _ => none }
def FnExactFixTourWrongFalsely : Prop := fnExactFixTourRow.holds Tryd.pinned (OpenSpec.ofChange fnExactFixTourWrong)

/-- 'laws.FnExactPlacesOfBoxes': WHATEVER THE INPUT: true; the input reads as it did. -/
def fnExactPlacesOfBoxesSpec : ChangeSpec := { name := "fnExactPlacesOfBoxes", fn := fun _ => fun
  | [d] => { results := [.lit (.bool true)], args := [d] }
  | _ => none }
def fnExactPlacesOfBoxesRow : OpenClaim := { program := "ytoimgbcbmbpfaaadoor", sum := "f5dca13ddcb9fa879397513249c861a3479f87cedcd272584993a113c12c0904", func := "loop.example/g01334/laws.FnExactPlacesOfBoxes", spec := "fnExactPlacesOfBoxes", inPlace := ["internal/bytealg.IndexByteString", "internal/bytealg.IndexString"], unfollowed := true, recurses := true, named := ["unicode/utf8.first", "unicode/utf8.acceptRanges", "internal/bytealg.MaxLen"], apart := false, laid := [("unicode/utf8.acceptRanges", laid_unicode_utf8_acceptRanges), ("unicode/utf8.first", laid_unicode_utf8_first)] }
def FnExactPlacesOfBoxesSaid : Prop := fnExactPlacesOfBoxesRow.holds Tryd.pinned (OpenSpec.ofChange fnExactPlacesOfBoxesSpec)

/-- ITS FALSE NEIGHBOUR: 'it returns false'. Refute it at one input. -/
def fnExactPlacesOfBoxesWrong : ChangeSpec := { name := "fnExactPlacesOfBoxes", fn := fun _ => fun
  | [d] => { results := [.lit (.bool false)], args := [d] }
  | _ => none }
def FnExactPlacesOfBoxesWrongFalsely : Prop := fnExactPlacesOfBoxesRow.holds Tryd.pinned (OpenSpec.ofChange fnExactPlacesOfBoxesWrong)

/-- 'laws.FnExactIsPlacing': WHATEVER THE INPUT: true; the input reads as it did. -/
def fnExactIsPlacingSpec : ChangeSpec := { name := "fnExactIsPlacing", fn := fun _ => fun
  | [d1, d2] => { results := [.lit (.bool true)], args := [d1, d2] }
  | _ => none }
def fnExactIsPlacingRow : OpenClaim := { program := "ytoimgbcbmbpfaaadoor", sum := "f5dca13ddcb9fa879397513249c861a3479f87cedcd272584993a113c12c0904", func := "loop.example/g01334/laws.FnExactIsPlacing", spec := "fnExactIsPlacing", inPlace := ["internal/bytealg.IndexByteString", "internal/bytealg.IndexString"], named := ["unicode/utf8.first", "unicode/utf8.acceptRanges", "internal/bytealg.MaxLen"], apart := false, laid := [("unicode/utf8.acceptRanges", laid_unicode_utf8_acceptRanges), ("unicode/utf8.first", laid_unicode_utf8_first)] }
def FnExactIsPlacingSaid : Prop := fnExactIsPlacingRow.holds Tryd.pinned (OpenSpec.ofChange fnExactIsPlacingSpec)

/-- ITS FALSE NEIGHBOUR: 'it returns false'. Refute it at one input. -/
def fnExactIsPlacingWrong : ChangeSpec := { name := "fnExactIsPlacing", fn := fun _ => fun
  | [d1, d2] => { results := [.lit (.bool false)], args := [d1, d2] }
  | _ => none }
def FnExactIsPlacingWrongFalsely : Prop := fnExactIsPlacingRow.holds Tryd.pinned (OpenSpec.ofChange fnExactIsPlacingWrong)

/-- 'laws.FnExactIsServed': WHATEVER THE INPUT: true; the input reads as it did. -/
def fnExactIsServedSpec : ChangeSpec := { name := "fnExactIsServed", fn := fun _ => fun
  | [d] => { results := [.lit (.bool true)], args := [d] }
  | _ => none }
def fnExactIsServedRow : OpenClaim := { program := "ytoimgbcbmbpfaaadoor", sum := "f5dca13ddcb9fa879397513249c861a3479f87cedcd272584993a113c12c0904", func := "loop.example/g01334/laws.FnExactIsServed", spec := "fnExactIsServed", inPlace := ["internal/bytealg.IndexByteString", "internal/bytealg.IndexString", "internal/bytealg.CountString", "internal/abi.NoEscape", "internal/bytealg.MakeNoZero"], named := ["unicode/utf8.first", "unicode/utf8.acceptRanges", "internal/bytealg.MaxLen"], apart := false, laid := [("unicode/utf8.acceptRanges", laid_unicode_utf8_acceptRanges), ("unicode/utf8.first", laid_unicode_utf8_first)] }
def FnExactIsServedSaid : Prop := fnExactIsServedRow.holds Tryd.pinned (OpenSpec.ofChange fnExactIsServedSpec)

/-- ITS FALSE NEIGHBOUR: 'it returns false'. Refute it at one input. -/
def fnExactIsServedWrong : ChangeSpec := { name := "fnExactIsServed", fn := fun _ => fun
  | [d] => { results := [.lit (.bool false)], args := [d] }
  | _ => none }
def FnExactIsServedWrongFalsely : Prop := fnExactIsServedRow.holds Tryd.pinned (OpenSpec.ofChange fnExactIsServedWrong)

/-- 'laws.FnExactOpenAfter': WHATEVER THE INPUT: true; the input reads as it did. -/
def fnExactOpenAfterSpec : ChangeSpec := { name := "fnExactOpenAfter", fn := fun _ => fun
  | [d1, d2] => { results := [.lit (.bool true)], args := [d1, d2] }
  | _ => none }
def fnExactOpenAfterRow : OpenClaim := { program := "ytoimgbcbmbpfaaadoor", sum := "f5dca13ddcb9fa879397513249c861a3479f87cedcd272584993a113c12c0904", func := "loop.example/g01334/laws.FnExactOpenAfter", spec := "fnExactOpenAfter", inPlace := ["internal/bytealg.IndexByteString", "internal/bytealg.IndexString", "internal/bytealg.CountString", "internal/abi.NoEscape", "internal/bytealg.MakeNoZero"], named := ["unicode/utf8.first", "unicode/utf8.acceptRanges", "internal/bytealg.MaxLen"], apart := false, laid := [("unicode/utf8.acceptRanges", laid_unicode_utf8_acceptRanges), ("unicode/utf8.first", laid_unicode_utf8_first)] }
def FnExactOpenAfterSaid : Prop := fnExactOpenAfterRow.holds Tryd.pinned (OpenSpec.ofChange fnExactOpenAfterSpec)

/-- ITS FALSE NEIGHBOUR: 'it returns false'. Refute it at one input. -/
def fnExactOpenAfterWrong : ChangeSpec := { name := "fnExactOpenAfter", fn := fun _ => fun
  | [d1, d2] => { results := [.lit (.bool false)], args := [d1, d2] }
  | _ => none }
def FnExactOpenAfterWrongFalsely : Prop := fnExactOpenAfterRow.holds Tryd.pinned (OpenSpec.ofChange fnExactOpenAfterWrong)

/-- 'laws.FnExactFullestOf': WHATEVER THE INPUT: true; the input reads as it did. -/
def fnExactFullestOfSpec : ChangeSpec := { name := "fnExactFullestOf", fn := fun _ => fun
  | [d] => { results := [.lit (.bool true)], args := [d] }
  | _ => none }
def fnExactFullestOfRow : OpenClaim := { program := "ytoimgbcbmbpfaaadoor", sum := "f5dca13ddcb9fa879397513249c861a3479f87cedcd272584993a113c12c0904", func := "loop.example/g01334/laws.FnExactFullestOf", spec := "fnExactFullestOf", inPlace := ["internal/bytealg.IndexByteString", "internal/bytealg.IndexString", "internal/bytealg.CountString", "internal/abi.NoEscape", "internal/bytealg.MakeNoZero"], named := ["unicode/utf8.first", "unicode/utf8.acceptRanges", "internal/bytealg.MaxLen"], apart := false, laid := [("unicode/utf8.acceptRanges", laid_unicode_utf8_acceptRanges), ("unicode/utf8.first", laid_unicode_utf8_first)] }
def FnExactFullestOfSaid : Prop := fnExactFullestOfRow.holds Tryd.pinned (OpenSpec.ofChange fnExactFullestOfSpec)

/-- ITS FALSE NEIGHBOUR: 'it returns false'. Refute it at one input. -/
def fnExactFullestOfWrong : ChangeSpec := { name := "fnExactFullestOf", fn := fun _ => fun
  | [d] => { results := [.lit (.bool false)], args := [d] }
  | _ => none }
def FnExactFullestOfWrongFalsely : Prop := fnExactFullestOfRow.holds Tryd.pinned (OpenSpec.ofChange fnExactFullestOfWrong)

/-- 'laws.FnExactBackTour': WHATEVER THE INPUT: true; the input reads as it did. -/
def fnExactBackTourSpec : ChangeSpec := { name := "fnExactBackTour", fn := fun _ => fun
  | [d] => { results := [.lit (.bool true)], args := [d] }
  | _ => none }
def fnExactBackTourRow : OpenClaim := { program := "ytoimgbcbmbpfaaadoor", sum := "f5dca13ddcb9fa879397513249c861a3479f87cedcd272584993a113c12c0904", func := "loop.example/g01334/laws.FnExactBackTour", spec := "fnExactBackTour", inPlace := ["internal/bytealg.CountString", "internal/bytealg.IndexByteString", "internal/bytealg.IndexString", "internal/abi.NoEscape", "internal/bytealg.MakeNoZero"], named := ["internal/bytealg.MaxLen", "unicode/utf8.first", "unicode/utf8.acceptRanges"], apart := false, laid := [("unicode/utf8.acceptRanges", laid_unicode_utf8_acceptRanges), ("unicode/utf8.first", laid_unicode_utf8_first)] }
def FnExactBackTourSaid : Prop := fnExactBackTourRow.holds Tryd.pinned (OpenSpec.ofChange fnExactBackTourSpec)

/-- ITS FALSE NEIGHBOUR: 'it returns false'. Refute it at one input. -/
def fnExactBackTourWrong : ChangeSpec := { name := "fnExactBackTour", fn := fun _ => fun
  | [d] => { results := [.lit (.bool false)], args := [d] }
  | _ => none }
def FnExactBackTourWrongFalsely : Prop := fnExactBackTourRow.holds Tryd.pinned (OpenSpec.ofChange fnExactBackTourWrong)

/- THE SECOND FORM. 'bulk': how many values and letters a reading holds, each counted each time it is reached (what is shared counts as often as it is met; a slice's spare places count too). A statement '..UptoSaid' is the law's where the arguments, and the package variables that the reading takes, are together of bulk at most 1048576: NARROWER than '..Said'. Prove '..Said' where nothing that the law and all that it calls make is longer than what came in: it says more and counts as full. Else prove '..UptoSaid'. A law counts once. -/
mutual
def uptoBulk {H : Type} : DataW H → Nat
  | .lit (.string bytes) => bytes.length + 1
  | .lit _ => 1
  | .nil => 1
  | .ptr d => uptoBulk d + 1
  | .slice elems spare => uptoBulkAll elems + uptoBulkAll spare + 1
  | .agg parts => uptoBulkAll parts + 1
  | .iface _ d => uptoBulk d + 1
  | .map entries => uptoBulkEntries entries + 1
  | .held _ => 1
def uptoBulkAll {H : Type} : List (DataW H) → Nat
  | [] => 0
  | d :: r => uptoBulk d + uptoBulkAll r
def uptoBulkEntries {H : Type} : List (Lit × DataW H) → Nat
  | [] => 0
  | x :: r => uptoBulkEntry x + uptoBulkEntries r
def uptoBulkEntry {H : Type} : Lit × DataW H → Nat
  | (.string bytes, d) => bytes.length + uptoBulk d + 1
  | (_, d) => uptoBulk d + 1
 end
def uptoSmall : (H : Type) → List (DataW H) → Bool := fun _ ds => decide (uptoBulkAll ds ≤ 1048576)
def OpenSpec.upto (s : _root_.Go.ChangeSpec) : _root_.Go.OpenSpec := { _root_.Go.OpenSpec.ofChange s with cond := some uptoSmall }

/-- 'laws.FnExactIsLoading', WHERE WHAT IT READS IS OF BULK AT MOST 1048576: true; the input reads as it did. -/
def fnExactIsLoadingUptoRow : OpenClaim := { program := "ytoimgbcbmbpfaaadoor", sum := "f5dca13ddcb9fa879397513249c861a3479f87cedcd272584993a113c12c0904", func := "loop.example/g01334/laws.FnExactIsLoading", spec := "fnExactIsLoading", inPlace := ["internal/bytealg.IndexByteString", "internal/bytealg.IndexString"], named := ["unicode/utf8.first", "unicode/utf8.acceptRanges", "internal/bytealg.MaxLen"], apart := false, laid := [("unicode/utf8.acceptRanges", laid_unicode_utf8_acceptRanges), ("unicode/utf8.first", laid_unicode_utf8_first)], narrowed := true }
def FnExactIsLoadingUptoSaid : Prop := fnExactIsLoadingUptoRow.holds Tryd.pinned (OpenSpec.upto fnExactIsLoadingSpec)

/-- 'laws.FnExactFirstServed', WHERE WHAT IT READS IS OF BULK AT MOST 1048576: true; the input reads as it did. -/
def fnExactFirstServedUptoRow : OpenClaim := { program := "ytoimgbcbmbpfaaadoor", sum := "f5dca13ddcb9fa879397513249c861a3479f87cedcd272584993a113c12c0904", func := "loop.example/g01334/laws.FnExactFirstServed", spec := "fnExactFirstServed", inPlace := ["internal/bytealg.IndexByteString", "internal/bytealg.IndexString"], named := ["unicode/utf8.first", "unicode/utf8.acceptRanges", "internal/bytealg.MaxLen"], apart := false, laid := [("unicode/utf8.acceptRanges", laid_unicode_utf8_acceptRanges), ("unicode/utf8.first", laid_unicode_utf8_first)], narrowed := true }
def FnExactFirstServedUptoSaid : Prop := fnExactFirstServedUptoRow.holds Tryd.pinned (OpenSpec.upto fnExactFirstServedSpec)

/-- 'laws.FnExactCountLoadings', WHERE WHAT IT READS IS OF BULK AT MOST 1048576: true; the input reads as it did. -/
def fnExactCountLoadingsUptoRow : OpenClaim := { program := "ytoimgbcbmbpfaaadoor", sum := "f5dca13ddcb9fa879397513249c861a3479f87cedcd272584993a113c12c0904", func := "loop.example/g01334/laws.FnExactCountLoadings", spec := "fnExactCountLoadings", inPlace := ["internal/bytealg.IndexByteString", "internal/bytealg.IndexString"], named := ["unicode/utf8.first", "unicode/utf8.acceptRanges", "internal/bytealg.MaxLen"], apart := false, laid := [("unicode/utf8.acceptRanges", laid_unicode_utf8_acceptRanges), ("unicode/utf8.first", laid_unicode_utf8_first)], narrowed := true }
def FnExactCountLoadingsUptoSaid : Prop := fnExactCountLoadingsUptoRow.holds Tryd.pinned (OpenSpec.upto fnExactCountLoadingsSpec)

/-- 'laws.FnExactIsTour', WHERE WHAT IT READS IS OF BULK AT MOST 1048576: true; the input reads as it did. -/
def fnExactIsTourUptoRow : OpenClaim := { program := "ytoimgbcbmbpfaaadoor", sum := "f5dca13ddcb9fa879397513249c861a3479f87cedcd272584993a113c12c0904", func := "loop.example/g01334/laws.FnExactIsTour", spec := "fnExactIsTour", inPlace := ["internal/bytealg.IndexByteString", "internal/bytealg.IndexString"], named := ["unicode/utf8.first", "unicode/utf8.acceptRanges", "internal/bytealg.MaxLen"], apart := false, laid := [("unicode/utf8.acceptRanges", laid_unicode_utf8_acceptRanges), ("unicode/utf8.first", laid_unicode_utf8_first)], narrowed := true }
def FnExactIsTourUptoSaid : Prop := fnExactIsTourUptoRow.holds Tryd.pinned (OpenSpec.upto fnExactIsTourSpec)

/-- 'laws.FnExactFewestPlaces', WHERE WHAT IT READS IS OF BULK AT MOST 1048576: true; the input reads as it did. -/
def fnExactFewestPlacesUptoRow : OpenClaim := { program := "ytoimgbcbmbpfaaadoor", sum := "f5dca13ddcb9fa879397513249c861a3479f87cedcd272584993a113c12c0904", func := "loop.example/g01334/laws.FnExactFewestPlaces", spec := "fnExactFewestPlaces", inPlace := ["internal/bytealg.IndexByteString", "internal/bytealg.IndexString"], unfollowed := true, recurses := true, named := ["unicode/utf8.first", "unicode/utf8.acceptRanges", "internal/bytealg.MaxLen"], apart := false, laid := [("unicode/utf8.acceptRanges", laid_unicode_utf8_acceptRanges), ("unicode/utf8.first", laid_unicode_utf8_first)], narrowed := true }
def FnExactFewestPlacesUptoSaid : Prop := fnExactFewestPlacesUptoRow.holds Tryd.pinned (OpenSpec.upto fnExactFewestPlacesSpec)

/-- 'laws.FnExactStopsOf', WHERE WHAT IT READS IS OF BULK AT MOST 1048576: true; the input reads as it did. -/
def fnExactStopsOfUptoRow : OpenClaim := { program := "ytoimgbcbmbpfaaadoor", sum := "f5dca13ddcb9fa879397513249c861a3479f87cedcd272584993a113c12c0904", func := "loop.example/g01334/laws.FnExactStopsOf", spec := "fnExactStopsOf", inPlace := ["internal/bytealg.IndexByteString", "internal/bytealg.IndexString"], named := ["unicode/utf8.first", "unicode/utf8.acceptRanges", "internal/bytealg.MaxLen"], apart := false, laid := [("unicode/utf8.acceptRanges", laid_unicode_utf8_acceptRanges), ("unicode/utf8.first", laid_unicode_utf8_first)], narrowed := true }
def FnExactStopsOfUptoSaid : Prop := fnExactStopsOfUptoRow.holds Tryd.pinned (OpenSpec.upto fnExactStopsOfSpec)

/-- 'laws.FnExactFixTour', WHERE WHAT IT READS IS OF BULK AT MOST 1048576: true; the input reads as it did. -/
def fnExactFixTourUptoRow : OpenClaim := { program := "ytoimgbcbmbpfaaadoor", sum := "f5dca13ddcb9fa879397513249c861a3479f87cedcd272584993a113c12c0904", func := "loop.example/g01334/laws.FnExactFixTour", spec := "fnExactFixTour", inPlace := ["internal/bytealg.IndexByteString", "internal/bytealg.IndexString"], named := ["unicode/utf8.first", "unicode/utf8.acceptRanges", "internal/bytealg.MaxLen"], apart := false, laid := [("unicode/utf8.acceptRanges", laid_unicode_utf8_acceptRanges), ("unicode/utf8.first", laid_unicode_utf8_first)], narrowed := true }
def FnExactFixTourUptoSaid : Prop := fnExactFixTourUptoRow.holds Tryd.pinned (OpenSpec.upto fnExactFixTourSpec)

/-- 'laws.FnExactPlacesOfBoxes', WHERE WHAT IT READS IS OF BULK AT MOST 1048576: true; the input reads as it did. -/
def fnExactPlacesOfBoxesUptoRow : OpenClaim := { program := "ytoimgbcbmbpfaaadoor", sum := "f5dca13ddcb9fa879397513249c861a3479f87cedcd272584993a113c12c0904", func := "loop.example/g01334/laws.FnExactPlacesOfBoxes", spec := "fnExactPlacesOfBoxes", inPlace := ["internal/bytealg.IndexByteString", "internal/bytealg.IndexString"], unfollowed := true, recurses := true, named := ["unicode/utf8.first", "unicode/utf8.acceptRanges", "internal/bytealg.MaxLen"], apart := false, laid := [("unicode/utf8.acceptRanges", laid_unicode_utf8_acceptRanges), ("unicode/utf8.first", laid_unicode_utf8_first)], narrowed := true }
def FnExactPlacesOfBoxesUptoSaid : Prop := fnExactPlacesOfBoxesUptoRow.holds Tryd.pinned (OpenSpec.upto fnExactPlacesOfBoxesSpec)

/-- 'laws.FnExactIsPlacing', WHERE WHAT IT READS IS OF BULK AT MOST 1048576: true; the input reads as it did. -/
def fnExactIsPlacingUptoRow : OpenClaim := { program := "ytoimgbcbmbpfaaadoor", sum := "f5dca13ddcb9fa879397513249c861a3479f87cedcd272584993a113c12c0904", func := "loop.example/g01334/laws.FnExactIsPlacing", spec := "fnExactIsPlacing", inPlace := ["internal/bytealg.IndexByteString", "internal/bytealg.IndexString"], named := ["unicode/utf8.first", "unicode/utf8.acceptRanges", "internal/bytealg.MaxLen"], apart := false, laid := [("unicode/utf8.acceptRanges", laid_unicode_utf8_acceptRanges), ("unicode/utf8.first", laid_unicode_utf8_first)], narrowed := true }
def FnExactIsPlacingUptoSaid : Prop := fnExactIsPlacingUptoRow.holds Tryd.pinned (OpenSpec.upto fnExactIsPlacingSpec)

/-- 'laws.FnExactIsServed', WHERE WHAT IT READS IS OF BULK AT MOST 1048576: true; the input reads as it did. -/
def fnExactIsServedUptoRow : OpenClaim := { program := "ytoimgbcbmbpfaaadoor", sum := "f5dca13ddcb9fa879397513249c861a3479f87cedcd272584993a113c12c0904", func := "loop.example/g01334/laws.FnExactIsServed", spec := "fnExactIsServed", inPlace := ["internal/bytealg.IndexByteString", "internal/bytealg.IndexString", "internal/bytealg.CountString", "internal/abi.NoEscape", "internal/bytealg.MakeNoZero"], named := ["unicode/utf8.first", "unicode/utf8.acceptRanges", "internal/bytealg.MaxLen"], apart := false, laid := [("unicode/utf8.acceptRanges", laid_unicode_utf8_acceptRanges), ("unicode/utf8.first", laid_unicode_utf8_first)], narrowed := true }
def FnExactIsServedUptoSaid : Prop := fnExactIsServedUptoRow.holds Tryd.pinned (OpenSpec.upto fnExactIsServedSpec)

/-- 'laws.FnExactOpenAfter', WHERE WHAT IT READS IS OF BULK AT MOST 1048576: true; the input reads as it did. -/
def fnExactOpenAfterUptoRow : OpenClaim := { program := "ytoimgbcbmbpfaaadoor", sum := "f5dca13ddcb9fa879397513249c861a3479f87cedcd272584993a113c12c0904", func := "loop.example/g01334/laws.FnExactOpenAfter", spec := "fnExactOpenAfter", inPlace := ["internal/bytealg.IndexByteString", "internal/bytealg.IndexString", "internal/bytealg.CountString", "internal/abi.NoEscape", "internal/bytealg.MakeNoZero"], named := ["unicode/utf8.first", "unicode/utf8.acceptRanges", "internal/bytealg.MaxLen"], apart := false, laid := [("unicode/utf8.acceptRanges", laid_unicode_utf8_acceptRanges), ("unicode/utf8.first", laid_unicode_utf8_first)], narrowed := true }
def FnExactOpenAfterUptoSaid : Prop := fnExactOpenAfterUptoRow.holds Tryd.pinned (OpenSpec.upto fnExactOpenAfterSpec)

/-- 'laws.FnExactFullestOf', WHERE WHAT IT READS IS OF BULK AT MOST 1048576: true; the input reads as it did. -/
def fnExactFullestOfUptoRow : OpenClaim := { program := "ytoimgbcbmbpfaaadoor", sum := "f5dca13ddcb9fa879397513249c861a3479f87cedcd272584993a113c12c0904", func := "loop.example/g01334/laws.FnExactFullestOf", spec := "fnExactFullestOf", inPlace := ["internal/bytealg.IndexByteString", "internal/bytealg.IndexString", "internal/bytealg.CountString", "internal/abi.NoEscape", "internal/bytealg.MakeNoZero"], named := ["unicode/utf8.first", "unicode/utf8.acceptRanges", "internal/bytealg.MaxLen"], apart := false, laid := [("unicode/utf8.acceptRanges", laid_unicode_utf8_acceptRanges), ("unicode/utf8.first", laid_unicode_utf8_first)], narrowed := true }
def FnExactFullestOfUptoSaid : Prop := fnExactFullestOfUptoRow.holds Tryd.pinned (OpenSpec.upto fnExactFullestOfSpec)

/-- 'laws.FnExactBackTour', WHERE WHAT IT READS IS OF BULK AT MOST 1048576: true; the input reads as it did. -/
def fnExactBackTourUptoRow : OpenClaim := { program := "ytoimgbcbmbpfaaadoor", sum := "f5dca13ddcb9fa879397513249c861a3479f87cedcd272584993a113c12c0904", func := "loop.example/g01334/laws.FnExactBackTour", spec := "fnExactBackTour", inPlace := ["internal/bytealg.CountString", "internal/bytealg.IndexByteString", "internal/bytealg.IndexString", "internal/abi.NoEscape", "internal/bytealg.MakeNoZero"], named := ["internal/bytealg.MaxLen", "unicode/utf8.first", "unicode/utf8.acceptRanges"], apart := false, laid := [("unicode/utf8.acceptRanges", laid_unicode_utf8_acceptRanges), ("unicode/utf8.first", laid_unicode_utf8_first)], narrowed := true }
def FnExactBackTourUptoSaid : Prop := fnExactBackTourUptoRow.holds Tryd.pinned (OpenSpec.upto fnExactBackTourSpec)

end Rows
end Go.Proofs.YtoimgbcbmbpfaaaDoor
