/- What the Go functions of this seat give, as Lean functions, and that each call comes to it. Written by the session's own program (wip/tools/mprint.py). -/
import Derived.Test.YthdalpminhbckaaDoorProg
import Derived.Below
import Derived.Deep.Draws
import Derived.Deep.AppendLies
import Derived.Maps.AppendAt
import Derived.OwnWalk
import Derived.Laws.BytesArg
import Derived.Laws.MakeOwn
import Derived.Laws.OwnMore
import Derived.Deep.OwnRows
import Derived.Tactics
import Derived.Lib.ConvBytes
import Derived.Laws.Slices
import Derived.WalkKit
import Derived.KernelRfl
import Derived.RowKit3
import Derived.Deep.LoopGhost
import Derived.Deep.QuietTactic
import Derived.BigQuiet
import Derived.WideLaws
import Derived.Deep.DeepCutAuto
import Derived.Deep.CutBlock
import Derived.Deep.RegionHeld3
import Derived.Laws.Rows
import Derived.Lib.AppendStr
import Derived.ArgAppend
import Derived.Laws.IdiomCopy
import Derived.OrdersHeld
import Derived.Laws.BitsLemmas
import Derived.RowKit
import Derived.Test.YthdalpminhbckaaDoorValid
import Derived.Test.YthdalpminhbckaaDoorStrs
import Derived.Test.YthdalpminhbckaaDoorWWords
import Derived.Test.YthdalpminhbckaaDoorWLast
import Derived.Test.YthdalpminhbckaaDoorWTab
import Derived.Test.YthdalpminhbckaaDoorWFour
import Derived.Test.YthdalpminhbckaaDoorWQPut
import Derived.Test.YthdalpminhbckaaDoorWApart
import Derived.Test.YthdalpminhbckaaDoorWArr
import Derived.Test.YthdalpminhbckaaDoorWZeros
import Derived.Test.YthdalpminhbckaaDoorWFoot
import Derived.Test.YthdalpminhbckaaDoorWKept
import Derived.Test.YthdalpminhbckaaDoorWShare
import Derived.Test.YthdalpminhbckaaDoorWN
import Derived.Test.YthdalpminhbckaaDoorWFootNe
import Derived.Test.YthdalpminhbckaaDoorWAt
import Derived.Test.YthdalpminhbckaaDoorWEqStruct
import Derived.Test.YthdalpminhbckaaDoorWRepsOne
import Derived.Test.YthdalpminhbckaaDoorWInv
import Derived.Test.YthdalpminhbckaaDoorWInvWords
import Derived.Test.YthdalpminhbckaaDoorWGuard
import Derived.Test.YthdalpminhbckaaDoorWNEv
import Derived.Test.YthdalpminhbckaaDoorWMore
namespace Go.Proofs.YthdalpminhbckaaDoor.K
open Go.RowKit Go.Proofs.YthdalpminhbckaaDoor.G Go.Proofs.YthdalpminhbckaaDoorW.PrintWords Go.Proofs.YthdalpminhbckaaDoorW.PrintLast Go.Proofs.YthdalpminhbckaaDoorW.PrintMore
attribute [local go_sem] max2_int min2_int max_two min_two max_three min_three max_four min_four   -- for this text's walks alone
set_option linter.unusedVariables false
set_option linter.unusedSimpArgs false



def errW : Option Int → Value
  | none => .nilIface
  | some c => .iface 0 (.int .i64 c)
theorem errW_none : errW none = .nilIface := rfl
theorem errW_some (c : Int) : errW (some c) = .iface 0 (.int .i64 c) := rfl

-- the values' own types

end Go.Proofs.YthdalpminhbckaaDoor.K
