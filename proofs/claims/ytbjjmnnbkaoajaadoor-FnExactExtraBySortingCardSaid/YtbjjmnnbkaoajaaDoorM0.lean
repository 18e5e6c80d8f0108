-- Written by the session's program wip/myprint.py (over the kit's print); the given parts by hand.
import Derived.Test.YtbjjmnnbkaoajaaDoorProg
import Derived.Below
import Derived.Deep.Draws
import Derived.Deep.AppendLies
import Derived.Maps.AppendAt
import Derived.OwnWalk
import Derived.Laws.BytesArg
import Derived.Laws.MakeOwn
import Derived.Laws.OwnMore
import Derived.Deep.OwnRows
import Derived.Tactics
import Derived.Lib.ConvBytes
import Derived.Laws.Slices
import Derived.WalkKit
import Derived.KernelRfl
import Derived.RowKit3
import Derived.Deep.LoopGhost
import Derived.Deep.QuietTactic
import Derived.BigQuiet
import Derived.WideLaws
import Derived.Deep.DeepCutAuto
import Derived.Deep.CutBlock
import Derived.Deep.RegionHeld3
import Derived.Laws.Rows
import Derived.Lib.AppendStr
import Derived.ArgAppend
import Derived.Laws.IdiomCopy
import Derived.OrdersHeld
import Derived.Laws.BitsLemmas
import Derived.RowKit
import Derived.Shelf.Strings.SlTrimAscii
import Derived.Test.YtbjjmnnbkaoajaaDoorShelf
import Derived.Lib.ConvBytes
import Derived.Shelf.RegionOpenPlain
import Derived.Laws.BytesArg
import Derived.Shelf.Small.Bits
import Derived.Shelf.Small.Strs
import Derived.Shelf.Strings.Replace
import Derived.Lib.IndexBytes
import Derived.Lib.IndexLaws
import Derived.BigRegion
import Derived.Test.YtbjjmnnbkaoajaaDoorWWords
import Derived.Test.YtbjjmnnbkaoajaaDoorWLast
import Derived.Test.YtbjjmnnbkaoajaaDoorWTab
import Derived.Test.YtbjjmnnbkaoajaaDoorWFour
import Derived.Test.YtbjjmnnbkaoajaaDoorWQPut
import Derived.Test.YtbjjmnnbkaoajaaDoorWApart
import Derived.Test.YtbjjmnnbkaoajaaDoorWArr
import Derived.Test.YtbjjmnnbkaoajaaDoorWZeros
import Derived.Test.YtbjjmnnbkaoajaaDoorWFoot
import Derived.Test.YtbjjmnnbkaoajaaDoorWKept
import Derived.Test.YtbjjmnnbkaoajaaDoorWShare
import Derived.Test.YtbjjmnnbkaoajaaDoorWN
import Derived.Test.YtbjjmnnbkaoajaaDoorWFootNe
import Derived.Test.YtbjjmnnbkaoajaaDoorWAt
import Derived.Test.YtbjjmnnbkaoajaaDoorWEqStruct
import Derived.Test.YtbjjmnnbkaoajaaDoorWRepsOne
import Derived.Test.YtbjjmnnbkaoajaaDoorWInv
import Derived.Test.YtbjjmnnbkaoajaaDoorWInvWords
import Derived.Test.YtbjjmnnbkaoajaaDoorWGuard
import Derived.Test.YtbjjmnnbkaoajaaDoorWNEv
import Derived.Test.YtbjjmnnbkaoajaaDoorWMore
namespace Go.Proofs.YtbjjmnnbkaoajaaDoor.M
open Go.RowKit Go.Proofs.YtbjjmnnbkaoajaaDoorW.PrintWords Go.Proofs.YtbjjmnnbkaoajaaDoorW.PrintLast Go.Proofs.YtbjjmnnbkaoajaaDoorW.PrintMore
attribute [local go_sem] max2_int min2_int max_two min_two max_three min_three max_four min_four   -- for this text's walks alone
set_option linter.unusedVariables false
set_option linter.unusedSimpArgs false



def errW : Option Int → Value
  | none => .nilIface
  | some c => .iface 0 (.int .i64 c)
theorem errW_none : errW none = .nilIface := rfl
theorem errW_some (c : Int) : errW (some c) = .iface 0 (.int .i64 c) := rfl

-- the values' own types

end Go.Proofs.YtbjjmnnbkaoajaaDoor.M
