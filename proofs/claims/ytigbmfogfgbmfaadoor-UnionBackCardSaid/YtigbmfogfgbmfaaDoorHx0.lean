import Derived.Test.YtigbmfogfgbmfaaDoorProg
import Derived.Below
import Derived.Deep.Draws
import Derived.Deep.AppendLies
import Derived.Maps.AppendAt
import Derived.OwnWalk
import Derived.Laws.BytesArg
import Derived.Laws.MakeOwn
import Derived.Laws.OwnMore
import Derived.Deep.OwnRows
import Derived.Tactics
import Derived.Lib.ConvBytes
import Derived.Laws.Slices
import Derived.WalkKit
import Derived.KernelRfl
import Derived.RowKit3
import Derived.Deep.LoopGhost
import Derived.Deep.QuietTactic
import Derived.BigQuiet
import Derived.WideLaws
import Derived.Deep.DeepCutAuto
import Derived.Deep.CutBlock
import Derived.Deep.RegionHeld3
import Derived.Laws.Rows
import Derived.Lib.AppendStr
import Derived.ArgAppend
import Derived.Laws.IdiomCopy
import Derived.OrdersHeld
import Derived.Laws.BitsLemmas
import Derived.RowKit
import Derived.Test.YtigbmfogfgbmfaaDoorWWords
import Derived.Test.YtigbmfogfgbmfaaDoorWLast
import Derived.Test.YtigbmfogfgbmfaaDoorWTab
import Derived.Test.YtigbmfogfgbmfaaDoorWFour
import Derived.Test.YtigbmfogfgbmfaaDoorWQPut
import Derived.Test.YtigbmfogfgbmfaaDoorWApart
import Derived.Test.YtigbmfogfgbmfaaDoorWArr
import Derived.Test.YtigbmfogfgbmfaaDoorWZeros
import Derived.Test.YtigbmfogfgbmfaaDoorWFoot
import Derived.Test.YtigbmfogfgbmfaaDoorWKept
import Derived.Test.YtigbmfogfgbmfaaDoorWShare
import Derived.Test.YtigbmfogfgbmfaaDoorWN
import Derived.Test.YtigbmfogfgbmfaaDoorWFootNe
import Derived.Test.YtigbmfogfgbmfaaDoorWAt
import Derived.Test.YtigbmfogfgbmfaaDoorWEqStruct
import Derived.Test.YtigbmfogfgbmfaaDoorWRepsOne
import Derived.Test.YtigbmfogfgbmfaaDoorWInv
import Derived.Test.YtigbmfogfgbmfaaDoorWInvWords
import Derived.Test.YtigbmfogfgbmfaaDoorWGuard
import Derived.Test.YtigbmfogfgbmfaaDoorWNEv
import Derived.Test.YtigbmfogfgbmfaaDoorWMore
import Derived.Test.YtigbmfogfgbmfaaDoorX
import Derived.Test.YtigbmfogfgbmfaaDoorO
import Derived.Test.YtigbmfogfgbmfaaDoorG
namespace Go.Proofs.YtigbmfogfgbmfaaDoor.Fn
set_option maxHeartbeats 8000000
set_option maxRecDepth 100000
open Go.RowKit Go.Proofs.YtigbmfogfgbmfaaDoorW.PrintWords Go.Proofs.YtigbmfogfgbmfaaDoorW.PrintLast Go.Proofs.YtigbmfogfgbmfaaDoorW.PrintMore
attribute [local go_sem] max2_int min2_int max_two min_two max_three min_three max_four min_four
set_option linter.unusedVariables false
set_option linter.unusedSimpArgs false
def errW : Option Int → Value
  | none => .nilIface
  | some c => .iface 0 (.int .i64 c)
theorem errW_none : errW none = .nilIface := rfl
theorem errW_some (c : Int) : errW (some c) = .iface 0 (.int .i64 c) := rfl
theorem info3 : (Tryd.prog.info? 3).map (fun i => (i.zero, i.size, i.bytes)) = some (some (.int .i64 0), 1, 8) := by kernel_rfl
theorem info5 : (Tryd.prog.info? 5).map (fun i => (i.zero, i.size, i.bytes)) = some (some (.int .u8 0), 1, 1) := by kernel_rfl
theorem info9 : (Tryd.prog.info? 9).map (fun i => (i.zero, i.size, i.bytes)) = some (some (.string ⟨#[]⟩), 1, 16) := by kernel_rfl
structure S25 where
  f0 : Bool
  f1 : (List ByteArray)
  f2 : (List Int)
end Go.Proofs.YtigbmfogfgbmfaaDoor.Fn
