import Derived.Test.YtdhjhcdeeelmhaaProg
import Derived.Below
import Derived.Deep.Draws
import Derived.Deep.AppendLies
import Derived.Maps.AppendAt
import Derived.OwnWalk
import Derived.Laws.BytesArg
import Derived.Laws.MakeOwn
import Derived.Laws.OwnMore
import Derived.Deep.OwnRows
import Derived.Tactics
import Derived.Lib.ConvBytes
import Derived.Laws.Slices
import Derived.WalkKit
import Derived.KernelRfl
import Derived.RowKit3
import Derived.Deep.LoopGhost
import Derived.Deep.QuietTactic
import Derived.BigQuiet
import Derived.WideLaws
import Derived.Deep.DeepCutAuto
import Derived.Deep.CutBlock
import Derived.Deep.RegionHeld3
import Derived.Laws.Rows
import Derived.Lib.AppendStr
import Derived.ArgAppend
import Derived.Laws.IdiomCopy
import Derived.OrdersHeld
import Derived.Laws.BitsLemmas
import Derived.RowKit
import Derived.Test.YtdhjhcdeeelmhaaWWords
import Derived.Test.YtdhjhcdeeelmhaaWLast
import Derived.Test.YtdhjhcdeeelmhaaWTab
import Derived.Test.YtdhjhcdeeelmhaaWFour
import Derived.Test.YtdhjhcdeeelmhaaWQPut
import Derived.Test.YtdhjhcdeeelmhaaWApart
import Derived.Test.YtdhjhcdeeelmhaaWArr
import Derived.Test.YtdhjhcdeeelmhaaWZeros
import Derived.Test.YtdhjhcdeeelmhaaWFoot
import Derived.Test.YtdhjhcdeeelmhaaWKept
import Derived.Test.YtdhjhcdeeelmhaaWShare
import Derived.Test.YtdhjhcdeeelmhaaWN
import Derived.Test.YtdhjhcdeeelmhaaWFootNe
import Derived.Test.YtdhjhcdeeelmhaaWAt
import Derived.Test.YtdhjhcdeeelmhaaWEqStruct
import Derived.Test.YtdhjhcdeeelmhaaWRepsOne
import Derived.Test.YtdhjhcdeeelmhaaWInv
import Derived.Test.YtdhjhcdeeelmhaaWInvWords
import Derived.Test.YtdhjhcdeeelmhaaWGuard
import Derived.Test.YtdhjhcdeeelmhaaWNEv
import Derived.Test.YtdhjhcdeeelmhaaWMore
import Derived.Test.YtdhjhcdeeelmhaaX
import Derived.Test.YtdhjhcdeeelmhaaO
namespace Go.Proofs.Ytdhjhcdeeelmhaa.Fn
set_option maxHeartbeats 8000000
set_option maxRecDepth 100000
open Go.RowKit Go.Proofs.YtdhjhcdeeelmhaaW.PrintWords Go.Proofs.YtdhjhcdeeelmhaaW.PrintLast Go.Proofs.YtdhjhcdeeelmhaaW.PrintMore
attribute [local go_sem] max2_int min2_int max_two min_two max_three min_three max_four min_four
set_option linter.unusedVariables false
set_option linter.unusedSimpArgs false
def errW : Option Int → Value
  | none => .nilIface
  | some c => .iface 0 (.int .i64 c)
theorem errW_none : errW none = .nilIface := rfl
theorem errW_some (c : Int) : errW (some c) = .iface 0 (.int .i64 c) := rfl
theorem info5 : (Try.prog.info? 5).map (fun i => (i.zero, i.size, i.bytes)) = some (some (.int .u8 0), 1, 1) := by kernel_rfl
theorem info24 : (Try.prog.info? 24).map (fun i => (i.zero, i.size, i.bytes)) = some (some (.int .u64 0), 1, 8) := by kernel_rfl
theorem info39 : (Try.prog.info? 39).map (fun i => (i.zero, i.size, i.bytes)) = some (some (.int .u32 0), 1, 4) := by kernel_rfl
structure S26 where
  f0 : (List Int)
  f1 : (List Int)
  f2 : Int
def k26 : Kd S26 := Kd.iso (Kd.pair (Kd.slice 39 (Kd.int .u32)) (Kd.pair (Kd.slice 5 (Kd.int .u8)) (Kd.int .u64))) (fun x : S26 => (x.f0, x.f1, x.f2))
end Go.Proofs.Ytdhjhcdeeelmhaa.Fn
