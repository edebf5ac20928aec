/- What the Go functions of this seat give, as Lean functions, and that each call comes to it. Written by the session's own program (wip/tools/mprint.py). -/
import Derived.Test.YtallfkecjibpmaaDoorProg
import Derived.Below
import Derived.Deep.Draws
import Derived.Deep.AppendLies
import Derived.Maps.AppendAt
import Derived.OwnWalk
import Derived.Laws.BytesArg
import Derived.Laws.MakeOwn
import Derived.Laws.OwnMore
import Derived.Deep.OwnRows
import Derived.Tactics
import Derived.Lib.ConvBytes
import Derived.Laws.Slices
import Derived.WalkKit
import Derived.KernelRfl
import Derived.RowKit3
import Derived.Deep.LoopGhost
import Derived.Deep.QuietTactic
import Derived.BigQuiet
import Derived.WideLaws
import Derived.Deep.DeepCutAuto
import Derived.Deep.CutBlock
import Derived.Deep.RegionHeld3
import Derived.Laws.Rows
import Derived.Lib.AppendStr
import Derived.ArgAppend
import Derived.Laws.IdiomCopy
import Derived.OrdersHeld
import Derived.Laws.BitsLemmas
import Derived.RowKit
import Derived.Test.YtallfkecjibpmaaDoorKnown
import Derived.Test.YtallfkecjibpmaaDoorSpanC
import Derived.Test.YtallfkecjibpmaaDoorFields
import Derived.Test.YtallfkecjibpmaaDoorWWords
import Derived.Test.YtallfkecjibpmaaDoorWLast
import Derived.Test.YtallfkecjibpmaaDoorWTab
import Derived.Test.YtallfkecjibpmaaDoorWFour
import Derived.Test.YtallfkecjibpmaaDoorWQPut
import Derived.Test.YtallfkecjibpmaaDoorWApart
import Derived.Test.YtallfkecjibpmaaDoorWArr
import Derived.Test.YtallfkecjibpmaaDoorWZeros
import Derived.Test.YtallfkecjibpmaaDoorWFoot
import Derived.Test.YtallfkecjibpmaaDoorWKept
import Derived.Test.YtallfkecjibpmaaDoorWShare
import Derived.Test.YtallfkecjibpmaaDoorWN
import Derived.Test.YtallfkecjibpmaaDoorWFootNe
import Derived.Test.YtallfkecjibpmaaDoorWAt
import Derived.Test.YtallfkecjibpmaaDoorWEqStruct
import Derived.Test.YtallfkecjibpmaaDoorWRepsOne
import Derived.Test.YtallfkecjibpmaaDoorWInv
import Derived.Test.YtallfkecjibpmaaDoorWInvWords
import Derived.Test.YtallfkecjibpmaaDoorWGuard
import Derived.Test.YtallfkecjibpmaaDoorWNEv
import Derived.Test.YtallfkecjibpmaaDoorWMore
namespace Go.Proofs.YtallfkecjibpmaaDoor.M
open Go.RowKit Go.Proofs.YtallfkecjibpmaaDoor.G Go.Proofs.YtallfkecjibpmaaDoorW.PrintWords Go.Proofs.YtallfkecjibpmaaDoorW.PrintLast Go.Proofs.YtallfkecjibpmaaDoorW.PrintMore
attribute [local go_sem] max2_int min2_int max_two min_two max_three min_three max_four min_four   -- for this text's walks alone
set_option linter.unusedVariables false
set_option linter.unusedSimpArgs false



def errW : Option Int → Value
  | none => .nilIface
  | some c => .iface 0 (.int .i64 c)
theorem errW_none : errW none = .nilIface := rfl
theorem errW_some (c : Int) : errW (some c) = .iface 0 (.int .i64 c) := rfl

theorem info3 : (Tryd.prog.info? 3).map (fun i => (i.zero, i.size, i.bytes)) = some (some (.int .i64 0), 1, 8) := by kernel_rfl
-- the values' own types

end Go.Proofs.YtallfkecjibpmaaDoor.M
