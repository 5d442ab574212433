import Derived.Test.YtilndieajndggaaDoorProg
import Derived.Below
import Derived.Deep.Draws
import Derived.Deep.AppendLies
import Derived.Maps.AppendAt
import Derived.OwnWalk
import Derived.Laws.BytesArg
import Derived.Laws.MakeOwn
import Derived.Laws.OwnMore
import Derived.Deep.OwnRows
import Derived.Tactics
import Derived.Lib.ConvBytes
import Derived.Laws.Slices
import Derived.WalkKit
import Derived.KernelRfl
import Derived.RowKit3
import Derived.Deep.LoopGhost
import Derived.Deep.QuietTactic
import Derived.BigQuiet
import Derived.WideLaws
import Derived.Deep.DeepCutAuto
import Derived.Deep.CutBlock
import Derived.Deep.RegionHeld3
import Derived.Laws.Rows
import Derived.Lib.AppendStr
import Derived.ArgAppend
import Derived.Laws.IdiomCopy
import Derived.OrdersHeld
import Derived.Laws.BitsLemmas
import Derived.RowKit
import Derived.Test.YtilndieajndggaaDoorWWords
import Derived.Test.YtilndieajndggaaDoorWLast
import Derived.Test.YtilndieajndggaaDoorWTab
import Derived.Test.YtilndieajndggaaDoorWFour
import Derived.Test.YtilndieajndggaaDoorWQPut
import Derived.Test.YtilndieajndggaaDoorWApart
import Derived.Test.YtilndieajndggaaDoorWArr
import Derived.Test.YtilndieajndggaaDoorWZeros
import Derived.Test.YtilndieajndggaaDoorWFoot
import Derived.Test.YtilndieajndggaaDoorWKept
import Derived.Test.YtilndieajndggaaDoorWShare
import Derived.Test.YtilndieajndggaaDoorWN
import Derived.Test.YtilndieajndggaaDoorWFootNe
import Derived.Test.YtilndieajndggaaDoorWAt
import Derived.Test.YtilndieajndggaaDoorWEqStruct
import Derived.Test.YtilndieajndggaaDoorWRepsOne
import Derived.Test.YtilndieajndggaaDoorWInv
import Derived.Test.YtilndieajndggaaDoorWInvWords
import Derived.Test.YtilndieajndggaaDoorWGuard
import Derived.Test.YtilndieajndggaaDoorWNEv
import Derived.Test.YtilndieajndggaaDoorWMore
import Derived.Test.YtilndieajndggaaDoorX
import Derived.Test.YtilndieajndggaaDoorO
import Derived.Test.YtilndieajndggaaDoorG
namespace Go.Proofs.YtilndieajndggaaDoor.Fn
open Go.RowKit Go.Proofs.YtilndieajndggaaDoorW.PrintWords Go.Proofs.YtilndieajndggaaDoorW.PrintLast Go.Proofs.YtilndieajndggaaDoorW.PrintMore
attribute [local go_sem] max2_int min2_int max_two min_two max_three min_three max_four min_four
set_option linter.unusedVariables false
set_option linter.unusedSimpArgs false
def errW : Option Int → Value
  | none => .nilIface
  | some c => .iface 0 (.int .i64 c)
theorem errW_none : errW none = .nilIface := rfl
theorem errW_some (c : Int) : errW (some c) = .iface 0 (.int .i64 c) := rfl
theorem info5 : (Tryd.prog.info? 5).map (fun i => (i.zero, i.size, i.bytes)) = some (some (.int .u8 0), 1, 1) := by kernel_rfl
theorem info47 : (Tryd.prog.info? 47).map (fun i => (i.zero, i.size, i.bytes)) = some (some (.int .u64 0), 1, 8) := by kernel_rfl
theorem info57 : (Tryd.prog.info? 57).map (fun i => (i.zero, i.size, i.bytes)) = some (some (.int .u32 0), 1, 4) := by kernel_rfl
structure S49 where
  f0 : (List Int)
  f1 : (List Int)
  f2 : Int
end Go.Proofs.YtilndieajndggaaDoor.Fn
