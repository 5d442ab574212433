import Derived.Test.YtfffnogmkbbfkaaDoorProg
import Derived.Below
import Derived.Deep.Draws
import Derived.Deep.AppendLies
import Derived.Maps.AppendAt
import Derived.OwnWalk
import Derived.Laws.BytesArg
import Derived.Laws.MakeOwn
import Derived.Laws.OwnMore
import Derived.Deep.OwnRows
import Derived.Tactics
import Derived.Lib.ConvBytes
import Derived.Laws.Slices
import Derived.WalkKit
import Derived.KernelRfl
import Derived.RowKit3
import Derived.Deep.LoopGhost
import Derived.Deep.QuietTactic
import Derived.BigQuiet
import Derived.WideLaws
import Derived.Deep.DeepCutAuto
import Derived.Deep.CutBlock
import Derived.Deep.RegionHeld3
import Derived.Laws.Rows
import Derived.Lib.AppendStr
import Derived.ArgAppend
import Derived.Laws.IdiomCopy
import Derived.OrdersHeld
import Derived.Laws.BitsLemmas
import Derived.RowKit
import Derived.Test.YtfffnogmkbbfkaaDoorWWords
import Derived.Test.YtfffnogmkbbfkaaDoorWLast
import Derived.Test.YtfffnogmkbbfkaaDoorWTab
import Derived.Test.YtfffnogmkbbfkaaDoorWFour
import Derived.Test.YtfffnogmkbbfkaaDoorWQPut
import Derived.Test.YtfffnogmkbbfkaaDoorWApart
import Derived.Test.YtfffnogmkbbfkaaDoorWArr
import Derived.Test.YtfffnogmkbbfkaaDoorWZeros
import Derived.Test.YtfffnogmkbbfkaaDoorWFoot
import Derived.Test.YtfffnogmkbbfkaaDoorWKept
import Derived.Test.YtfffnogmkbbfkaaDoorWShare
import Derived.Test.YtfffnogmkbbfkaaDoorWN
import Derived.Test.YtfffnogmkbbfkaaDoorWFootNe
import Derived.Test.YtfffnogmkbbfkaaDoorWAt
import Derived.Test.YtfffnogmkbbfkaaDoorWEqStruct
import Derived.Test.YtfffnogmkbbfkaaDoorWRepsOne
import Derived.Test.YtfffnogmkbbfkaaDoorWInv
import Derived.Test.YtfffnogmkbbfkaaDoorWInvWords
import Derived.Test.YtfffnogmkbbfkaaDoorWGuard
import Derived.Test.YtfffnogmkbbfkaaDoorWNEv
import Derived.Test.YtfffnogmkbbfkaaDoorWMore
import Derived.Test.YtfffnogmkbbfkaaDoorX
import Derived.Test.YtfffnogmkbbfkaaDoorO
import Derived.Test.YtfffnogmkbbfkaaDoorG
namespace Go.Proofs.YtfffnogmkbbfkaaDoor.Fn
set_option maxHeartbeats 8000000
set_option maxRecDepth 100000
open Go.RowKit Go.Proofs.YtfffnogmkbbfkaaDoorW.PrintWords Go.Proofs.YtfffnogmkbbfkaaDoorW.PrintLast Go.Proofs.YtfffnogmkbbfkaaDoorW.PrintMore
attribute [local go_sem] max2_int min2_int max_two min_two max_three min_three max_four min_four
set_option linter.unusedVariables false
set_option linter.unusedSimpArgs false
def errW : Option Int → Value
  | none => .nilIface
  | some c => .iface 0 (.int .i64 c)
theorem errW_none : errW none = .nilIface := rfl
theorem errW_some (c : Int) : errW (some c) = .iface 0 (.int .i64 c) := rfl
theorem info3 : (Tryd.prog.info? 3).map (fun i => (i.zero, i.size, i.bytes)) = some (some (.int .i64 0), 1, 8) := by kernel_rfl
theorem info5 : (Tryd.prog.info? 5).map (fun i => (i.zero, i.size, i.bytes)) = some (some (.int .u8 0), 1, 1) := by kernel_rfl
theorem info71 : (Tryd.prog.info? 71).map (fun i => (i.zero, i.size, i.bytes)) = some (some (.int .u32 0), 1, 4) := by kernel_rfl
def rd_L1 (xs : List (List Int)) (i : Int) : (List Int) := xs.getD i.toNat ([] : List Int)
theorem at_L1 {w : World} {A : Option Addr} {n : Nat} {xs : List (List Int)} (h : Kd.C (Kd.slice 5 (Kd.int .u8)) w A n xs) (i : Int) (h0 : 0 ≤ i) (h1 : i < n) : ∃ ad A0 c0, A = some ad ∧ w.cell? (ad.add i.toNat) = some (.slice A0 (rd_L1 xs i).length c0) ∧ (rd_L1 xs i).length ≤ c0 ∧ (Kd.int .u8).C w A0 (rd_L1 xs i).length (rd_L1 xs i) := by
 obtain ⟨ad, c, e, _, hK, hc0⟩ := Kd.C_get h ([] : List Int) i h0 h1; have hc : ∀ j u, c[j]? = some u → w.cell? (ad.add (i.toNat * 1 + j)) = some u := hc0; obtain ⟨A0, c0, rfl, l0, g0⟩ := hK; exact ⟨ad, A0, c0, e, by have hq := hc 0 _ rfl; rwa [Nat.mul_one, Nat.add_zero] at hq, l0, g0⟩
structure S25 where
  f0 : Int
  f1 : ByteArray
  f2 : (List Int)
def z25 : S25 := ⟨(0 : Int), (⟨#[]⟩ : ByteArray), ([] : List Int)⟩
def k25 : Kd S25 := Kd.iso (Kd.pair (Kd.int .i64) (Kd.pair Kd.string (Kd.slice 3 (Kd.int .i64)))) (fun x : S25 => (x.f0, x.f1, x.f2))
end Go.Proofs.YtfffnogmkbbfkaaDoor.Fn
