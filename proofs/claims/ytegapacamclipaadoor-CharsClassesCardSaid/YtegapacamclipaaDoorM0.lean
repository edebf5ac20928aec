/- What the Go functions of this seat give, as Lean functions, and that each call comes to it. Written by the session's own program (wip/tools/mprint.py). -/
import Derived.Test.YtegapacamclipaaDoorProg
import Derived.Below
import Derived.Deep.Draws
import Derived.Deep.AppendLies
import Derived.Maps.AppendAt
import Derived.OwnWalk
import Derived.Laws.BytesArg
import Derived.Laws.MakeOwn
import Derived.Laws.OwnMore
import Derived.Deep.OwnRows
import Derived.Tactics
import Derived.Lib.ConvBytes
import Derived.Laws.Slices
import Derived.WalkKit
import Derived.KernelRfl
import Derived.RowKit3
import Derived.Deep.LoopGhost
import Derived.Deep.QuietTactic
import Derived.BigQuiet
import Derived.WideLaws
import Derived.Deep.DeepCutAuto
import Derived.Deep.CutBlock
import Derived.Deep.RegionHeld3
import Derived.Laws.Rows
import Derived.Lib.AppendStr
import Derived.ArgAppend
import Derived.Laws.IdiomCopy
import Derived.OrdersHeld
import Derived.Laws.BitsLemmas
import Derived.RowKit
import Derived.Test.YtegapacamclipaaDoorRest
import Derived.Test.YtegapacamclipaaDoorSpans3
import Derived.Test.YtegapacamclipaaDoorC
import Derived.Test.YtegapacamclipaaDoorWWords
import Derived.Test.YtegapacamclipaaDoorWLast
import Derived.Test.YtegapacamclipaaDoorWTab
import Derived.Test.YtegapacamclipaaDoorWFour
import Derived.Test.YtegapacamclipaaDoorWQPut
import Derived.Test.YtegapacamclipaaDoorWApart
import Derived.Test.YtegapacamclipaaDoorWArr
import Derived.Test.YtegapacamclipaaDoorWZeros
import Derived.Test.YtegapacamclipaaDoorWFoot
import Derived.Test.YtegapacamclipaaDoorWKept
import Derived.Test.YtegapacamclipaaDoorWShare
import Derived.Test.YtegapacamclipaaDoorWN
import Derived.Test.YtegapacamclipaaDoorWFootNe
import Derived.Test.YtegapacamclipaaDoorWAt
import Derived.Test.YtegapacamclipaaDoorWEqStruct
import Derived.Test.YtegapacamclipaaDoorWRepsOne
import Derived.Test.YtegapacamclipaaDoorWInv
import Derived.Test.YtegapacamclipaaDoorWInvWords
import Derived.Test.YtegapacamclipaaDoorWGuard
import Derived.Test.YtegapacamclipaaDoorWNEv
import Derived.Test.YtegapacamclipaaDoorWMore
namespace Go.Proofs.YtegapacamclipaaDoor.M
open Go.RowKit Go.Proofs.YtegapacamclipaaDoor.G Go.Proofs.YtegapacamclipaaDoor.C Go.Proofs.YtegapacamclipaaDoorW.PrintWords Go.Proofs.YtegapacamclipaaDoorW.PrintLast Go.Proofs.YtegapacamclipaaDoorW.PrintMore
attribute [local go_sem] max2_int min2_int max_two min_two max_three min_three max_four min_four   -- for this text's walks alone
set_option linter.unusedVariables false
set_option linter.unusedSimpArgs false



def errW : Option Int → Value
  | none => .nilIface
  | some c => .iface 0 (.int .i64 c)
theorem errW_none : errW none = .nilIface := rfl
theorem errW_some (c : Int) : errW (some c) = .iface 0 (.int .i64 c) := rfl

theorem info3 : (Tryd.prog.info? 3).map (fun i => (i.zero, i.size, i.bytes)) = some (some (.int .i64 0), 1, 8) := by kernel_rfl
theorem info9 : (Tryd.prog.info? 9).map (fun i => (i.zero, i.size, i.bytes)) = some (some (.string ⟨#[]⟩), 1, 16) := by kernel_rfl
end Go.Proofs.YtegapacamclipaaDoor.M
