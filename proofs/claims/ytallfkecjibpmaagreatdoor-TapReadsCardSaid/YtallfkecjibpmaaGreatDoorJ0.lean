/- What the Go functions of this seat give, as Lean functions, and that each call comes to it. Written by the session's own program (wip/tools/mprint.py). -/
import Derived.Test.YtallfkecjibpmaaGreatDoorProg
import Derived.Below
import Derived.Deep.Draws
import Derived.Deep.AppendLies
import Derived.Maps.AppendAt
import Derived.OwnWalk
import Derived.Laws.BytesArg
import Derived.Laws.MakeOwn
import Derived.Laws.OwnMore
import Derived.Deep.OwnRows
import Derived.Tactics
import Derived.Lib.ConvBytes
import Derived.Laws.Slices
import Derived.WalkKit
import Derived.KernelRfl
import Derived.RowKit3
import Derived.Deep.LoopGhost
import Derived.Deep.QuietTactic
import Derived.BigQuiet
import Derived.WideLaws
import Derived.Deep.DeepCutAuto
import Derived.Deep.CutBlock
import Derived.Deep.RegionHeld3
import Derived.Laws.Rows
import Derived.Lib.AppendStr
import Derived.ArgAppend
import Derived.Laws.IdiomCopy
import Derived.OrdersHeld
import Derived.Laws.BitsLemmas
import Derived.RowKit
import Derived.Test.YtallfkecjibpmaaGreatDoorTapS
import Derived.Test.YtallfkecjibpmaaGreatDoorWWords
import Derived.Test.YtallfkecjibpmaaGreatDoorWLast
import Derived.Test.YtallfkecjibpmaaGreatDoorWTab
import Derived.Test.YtallfkecjibpmaaGreatDoorWFour
import Derived.Test.YtallfkecjibpmaaGreatDoorWQPut
import Derived.Test.YtallfkecjibpmaaGreatDoorWApart
import Derived.Test.YtallfkecjibpmaaGreatDoorWArr
import Derived.Test.YtallfkecjibpmaaGreatDoorWZeros
import Derived.Test.YtallfkecjibpmaaGreatDoorWFoot
import Derived.Test.YtallfkecjibpmaaGreatDoorWKept
import Derived.Test.YtallfkecjibpmaaGreatDoorWShare
import Derived.Test.YtallfkecjibpmaaGreatDoorWN
import Derived.Test.YtallfkecjibpmaaGreatDoorWFootNe
import Derived.Test.YtallfkecjibpmaaGreatDoorWAt
import Derived.Test.YtallfkecjibpmaaGreatDoorWEqStruct
import Derived.Test.YtallfkecjibpmaaGreatDoorWRepsOne
import Derived.Test.YtallfkecjibpmaaGreatDoorWInv
import Derived.Test.YtallfkecjibpmaaGreatDoorWInvWords
import Derived.Test.YtallfkecjibpmaaGreatDoorWGuard
import Derived.Test.YtallfkecjibpmaaGreatDoorWNEv
import Derived.Test.YtallfkecjibpmaaGreatDoorWMore
namespace Go.Proofs.YtallfkecjibpmaaGreatDoor.J
open Go.RowKit Go.Proofs.YtallfkecjibpmaaGreatDoor.G Go.Proofs.YtallfkecjibpmaaGreatDoorW.PrintWords Go.Proofs.YtallfkecjibpmaaGreatDoorW.PrintLast Go.Proofs.YtallfkecjibpmaaGreatDoorW.PrintMore
attribute [local go_sem] max2_int min2_int max_two min_two max_three min_three max_four min_four   -- for this text's walks alone
set_option linter.unusedVariables false
set_option linter.unusedSimpArgs false



def errW : Option Int → Value
  | none => .nilIface
  | some c => .iface 0 (.int .i64 c)
theorem errW_none : errW none = .nilIface := rfl
theorem errW_some (c : Int) : errW (some c) = .iface 0 (.int .i64 c) := rfl

-- the values' own types

end Go.Proofs.YtallfkecjibpmaaGreatDoor.J
