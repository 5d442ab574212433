-- written by a program of this session (hprint.py, over the kit's print) out of the translation
import Derived.Test.YtohhpobgmhoeoaaProg
import Derived.Below
import Derived.Deep.Draws
import Derived.Deep.AppendLies
import Derived.Maps.AppendAt
import Derived.OwnWalk
import Derived.Laws.BytesArg
import Derived.Laws.MakeOwn
import Derived.Laws.OwnMore
import Derived.Deep.OwnRows
import Derived.Tactics
import Derived.Lib.ConvBytes
import Derived.Laws.Slices
import Derived.WalkKit
import Derived.KernelRfl
import Derived.RowKit3
import Derived.Deep.LoopGhost
import Derived.Deep.QuietTactic
import Derived.BigQuiet
import Derived.WideLaws
import Derived.Deep.DeepCutAuto
import Derived.Deep.CutBlock
import Derived.Deep.RegionHeld3
import Derived.Laws.Rows
import Derived.Lib.AppendStr
import Derived.ArgAppend
import Derived.Laws.IdiomCopy
import Derived.OrdersHeld
import Derived.Laws.BitsLemmas
import Derived.RowKit
import Derived.Test.YtohhpobgmhoeoaaWWords
import Derived.Test.YtohhpobgmhoeoaaWLast
import Derived.Test.YtohhpobgmhoeoaaWTab
import Derived.Test.YtohhpobgmhoeoaaWFour
import Derived.Test.YtohhpobgmhoeoaaWQPut
import Derived.Test.YtohhpobgmhoeoaaWApart
import Derived.Test.YtohhpobgmhoeoaaWArr
import Derived.Test.YtohhpobgmhoeoaaWZeros
import Derived.Test.YtohhpobgmhoeoaaWFoot
import Derived.Test.YtohhpobgmhoeoaaWKept
import Derived.Test.YtohhpobgmhoeoaaWShare
import Derived.Test.YtohhpobgmhoeoaaWN
import Derived.Test.YtohhpobgmhoeoaaWFootNe
import Derived.Test.YtohhpobgmhoeoaaWAt
import Derived.Test.YtohhpobgmhoeoaaWEqStruct
import Derived.Test.YtohhpobgmhoeoaaWRepsOne
import Derived.Test.YtohhpobgmhoeoaaWInv
import Derived.Test.YtohhpobgmhoeoaaWInvWords
import Derived.Test.YtohhpobgmhoeoaaWGuard
import Derived.Test.YtohhpobgmhoeoaaWNEv
import Derived.Test.YtohhpobgmhoeoaaWMore
import Derived.Test.YtohhpobgmhoeoaaX
namespace Go.Proofs.Ytohhpobgmhoeoaa.Fn
open Go.RowKit Go.Proofs.YtohhpobgmhoeoaaW.PrintWords Go.Proofs.YtohhpobgmhoeoaaW.PrintLast Go.Proofs.YtohhpobgmhoeoaaW.PrintMore
attribute [local go_sem] max2_int min2_int max_two min_two max_three min_three max_four min_four   -- for this text's walks alone
set_option linter.unusedVariables false
set_option linter.unusedSimpArgs false



def errW : Option Int → Value
  | none => .nilIface
  | some c => .iface 0 (.int .i64 c)
theorem errW_none : errW none = .nilIface := rfl
theorem errW_some (c : Int) : errW (some c) = .iface 0 (.int .i64 c) := rfl

theorem info5 : (Try.prog.info? 5).map (fun i => (i.zero, i.size, i.bytes)) = some (some (.int .u8 0), 1, 1) := by kernel_rfl
-- the values' own types

end Go.Proofs.Ytohhpobgmhoeoaa.Fn
