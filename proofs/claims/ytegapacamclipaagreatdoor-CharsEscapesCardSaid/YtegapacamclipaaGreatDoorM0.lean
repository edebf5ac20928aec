/- What the Go functions of this seat give, as Lean functions, and that each call comes to it. Written by the session's own program (wip/tools/mprint.py). -/
import Derived.Test.YtegapacamclipaaGreatDoorProg
import Derived.Below
import Derived.Deep.Draws
import Derived.Deep.AppendLies
import Derived.Maps.AppendAt
import Derived.OwnWalk
import Derived.Laws.BytesArg
import Derived.Laws.MakeOwn
import Derived.Laws.OwnMore
import Derived.Deep.OwnRows
import Derived.Tactics
import Derived.Lib.ConvBytes
import Derived.Laws.Slices
import Derived.WalkKit
import Derived.KernelRfl
import Derived.RowKit3
import Derived.Deep.LoopGhost
import Derived.Deep.QuietTactic
import Derived.BigQuiet
import Derived.WideLaws
import Derived.Deep.DeepCutAuto
import Derived.Deep.CutBlock
import Derived.Deep.RegionHeld3
import Derived.Laws.Rows
import Derived.Lib.AppendStr
import Derived.ArgAppend
import Derived.Laws.IdiomCopy
import Derived.OrdersHeld
import Derived.Laws.BitsLemmas
import Derived.RowKit
import Derived.Test.YtegapacamclipaaGreatDoorUnesc
import Derived.Test.YtegapacamclipaaGreatDoorWWords
import Derived.Test.YtegapacamclipaaGreatDoorWLast
import Derived.Test.YtegapacamclipaaGreatDoorWTab
import Derived.Test.YtegapacamclipaaGreatDoorWFour
import Derived.Test.YtegapacamclipaaGreatDoorWQPut
import Derived.Test.YtegapacamclipaaGreatDoorWApart
import Derived.Test.YtegapacamclipaaGreatDoorWArr
import Derived.Test.YtegapacamclipaaGreatDoorWZeros
import Derived.Test.YtegapacamclipaaGreatDoorWFoot
import Derived.Test.YtegapacamclipaaGreatDoorWKept
import Derived.Test.YtegapacamclipaaGreatDoorWShare
import Derived.Test.YtegapacamclipaaGreatDoorWN
import Derived.Test.YtegapacamclipaaGreatDoorWFootNe
import Derived.Test.YtegapacamclipaaGreatDoorWAt
import Derived.Test.YtegapacamclipaaGreatDoorWEqStruct
import Derived.Test.YtegapacamclipaaGreatDoorWRepsOne
import Derived.Test.YtegapacamclipaaGreatDoorWInv
import Derived.Test.YtegapacamclipaaGreatDoorWInvWords
import Derived.Test.YtegapacamclipaaGreatDoorWGuard
import Derived.Test.YtegapacamclipaaGreatDoorWNEv
import Derived.Test.YtegapacamclipaaGreatDoorWMore
namespace Go.Proofs.YtegapacamclipaaGreatDoor.M
open Go.RowKit Go.Proofs.YtegapacamclipaaGreatDoor.G Go.Proofs.YtegapacamclipaaGreatDoorW.PrintWords Go.Proofs.YtegapacamclipaaGreatDoorW.PrintLast Go.Proofs.YtegapacamclipaaGreatDoorW.PrintMore
attribute [local go_sem] max2_int min2_int max_two min_two max_three min_three max_four min_four   -- for this text's walks alone
set_option linter.unusedVariables false
set_option linter.unusedSimpArgs false



def errW : Option Int → Value
  | none => .nilIface
  | some c => .iface 0 (.int .i64 c)
theorem errW_none : errW none = .nilIface := rfl
theorem errW_some (c : Int) : errW (some c) = .iface 0 (.int .i64 c) := rfl

theorem info3 : (Tryz.prog.info? 3).map (fun i => (i.zero, i.size, i.bytes)) = some (some (.int .i64 0), 1, 8) := by kernel_rfl
theorem info5 : (Tryz.prog.info? 5).map (fun i => (i.zero, i.size, i.bytes)) = some (some (.int .u8 0), 1, 1) := by kernel_rfl
theorem info9 : (Tryz.prog.info? 9).map (fun i => (i.zero, i.size, i.bytes)) = some (some (.string ⟨#[]⟩), 1, 16) := by kernel_rfl
-- the values' own types

end Go.Proofs.YtegapacamclipaaGreatDoor.M
