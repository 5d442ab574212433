import Derived.Test.YtdhjhcdeeelmhaaX
import Derived.Laws.BitsAllLaws
namespace Go.Proofs.Ytdhjhcdeeelmhaa.U
open Go.RowKit Go.Proofs.YtdhjhcdeeelmhaaW.PrintWords Go.Proofs.YtdhjhcdeeelmhaaW.PrintLast
set_option linter.unusedVariables false
set_option linter.unusedSimpArgs false
def ofN (ns : List Nat) : List Int := ns.map Int.ofNat
@[simp] theorem ofN_nil : ofN [] = [] := rfl
@[simp] theorem ofN_cons (n : Nat) (ns : List Nat) : ofN (n :: ns) = (n : Int) :: ofN ns := rfl
@[simp] theorem ofN_append (a b : List Nat) : ofN (a ++ b) = ofN a ++ ofN b := by simp [ofN]
@[simp] theorem ofN_length (a : List Nat) : (ofN a).length = a.length := by simp [ofN]
theorem u8_range {x : Int} (h : (Lit.int .u8 x).wf = true) : 0 ≤ x ∧ x < 256 := by
  simp [Lit.wf, IntKind.min, IntKind.max, IntKind.bits, IntKind.signed] at h
  omega
theorem u32_range {x : Int} (h : (Lit.int .u32 x).wf = true) : 0 ≤ x ∧ x < 4294967296 := by
  simp [Lit.wf, IntKind.min, IntKind.max, IntKind.bits, IntKind.signed] at h
  omega
theorem u64_range {x : Int} (h : (Lit.int .u64 x).wf = true) : 0 ≤ x ∧ x < 18446744073709551616 := by
  simp [Lit.wf, IntKind.min, IntKind.max, IntKind.bits, IntKind.signed] at h
  omega
theorem w64 {x : Int} (h0 : -9223372036854775808 ≤ x) (h1 : x < 9223372036854775808) : wrap64 x = x := by unfold wrap64; omega
theorem shr_nat (k : IntKind) (x n : Nat) (y : Int) (hy : y = (n : Int)) (h : n ≤ k.bits) : shr k (x : Int) y = ((x / 2 ^ n : Nat) : Int) := by
  subst hy
  unfold shr
  rw [Int.toNat_natCast, Nat.min_eq_left h]
  simp
end Go.Proofs.Ytdhjhcdeeelmhaa.U
