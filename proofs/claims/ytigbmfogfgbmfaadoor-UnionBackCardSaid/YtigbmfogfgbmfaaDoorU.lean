import Derived.Test.YtigbmfogfgbmfaaDoorX
import Derived.Laws.BitsAllLaws
namespace Go.Proofs.YtigbmfogfgbmfaaDoor.U
open Go.RowKit Go.Proofs.YtigbmfogfgbmfaaDoorW.PrintWords Go.Proofs.YtigbmfogfgbmfaaDoorW.PrintLast
set_option linter.unusedVariables false
set_option linter.unusedSimpArgs false
def ofN (ns : List Nat) : List Int := ns.map Int.ofNat
@[simp] theorem ofN_nil : ofN [] = [] := rfl
@[simp] theorem ofN_cons (n : Nat) (ns : List Nat) : ofN (n :: ns) = (n : Int) :: ofN ns := rfl
@[simp] theorem ofN_append (a b : List Nat) : ofN (a ++ b) = ofN a ++ ofN b := by simp [ofN]
@[simp] theorem ofN_length (a : List Nat) : (ofN a).length = a.length := by simp [ofN]
theorem ofN_set (a : List Nat) (n m : Nat) : (ofN a).set n (m : Int) = ofN (a.set n m) := by simp [ofN, List.map_set]
theorem rd_ofN (a : List Nat) (i : Int) : rd (ofN a) i = ((a.getD i.toNat 0 : Nat) : Int) := by
  unfold rd ofN
  rw [List.getD_eq_getElem?_getD, List.getD_eq_getElem?_getD, List.getElem?_map]
  cases a[i.toNat]? <;> rfl
theorem rd_at (a b : List Nat) (x : Nat) (i : Int) (h : i = a.length) : rd (ofN (a ++ x :: b)) i = (x : Int) := by
  subst h
  rw [rd_ofN]
  simp
theorem w64 {x : Int} (h0 : -9223372036854775808 ≤ x) (h1 : x < 9223372036854775808) : wrap64 x = x := by unfold wrap64; omega
theorem shr_nat (k : IntKind) (x n : Nat) (y : Int) (hy : y = (n : Int)) (h : n ≤ k.bits) : shr k (x : Int) y = ((x / 2 ^ n : Nat) : Int) := by
  subst hy
  unfold shr
  rw [Int.toNat_natCast, Nat.min_eq_left h]
  simp
end Go.Proofs.YtigbmfogfgbmfaaDoor.U
