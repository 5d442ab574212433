import Derived.Test.YtjjbofbkpmabbaaX
import Derived.Laws.BitsAllLaws
namespace Go.Proofs.Ytjjbofbkpmabbaa.U
open Go.RowKit Go.Proofs.YtjjbofbkpmabbaaW.PrintWords Go.Proofs.YtjjbofbkpmabbaaW.PrintLast
set_option linter.unusedVariables false
set_option linter.unusedSimpArgs false
def ofN (ns : List Nat) : List Int := ns.map Int.ofNat
@[simp] theorem ofN_nil : ofN [] = [] := rfl
@[simp] theorem ofN_cons (n : Nat) (ns : List Nat) : ofN (n :: ns) = (n : Int) :: ofN ns := rfl
@[simp] theorem ofN_append (a b : List Nat) : ofN (a ++ b) = ofN a ++ ofN b := by simp [ofN]
@[simp] theorem ofN_length (a : List Nat) : (ofN a).length = a.length := by simp [ofN]
theorem ofN_take (a : List Nat) (n : Nat) : (ofN a).take n = ofN (a.take n) := by simp [ofN, List.map_take]
theorem ofN_drop (a : List Nat) (n : Nat) : (ofN a).drop n = ofN (a.drop n) := by simp [ofN, List.map_drop]
theorem rd_ofN (a : List Nat) (i : Int) : rd (ofN a) i = ((a.getD i.toNat 0 : Nat) : Int) := by
  unfold rd ofN
  rw [List.getD_eq_getElem?_getD, List.getD_eq_getElem?_getD, List.getElem?_map]
  cases a[i.toNat]? <;> rfl
theorem u8_range {x : Int} (h : (Lit.int .u8 x).wf = true) : 0 ≤ x ∧ x < 256 := by
  simp [Lit.wf, IntKind.min, IntKind.max, IntKind.bits, IntKind.signed] at h
  omega
theorem bytes_of {l : List Int} (h : ∀ x ∈ l, (Lit.int .u8 x).wf = true) : ∃ ns : List Nat, l = ofN ns ∧ ∀ n ∈ ns, n < 256 := by
  refine ⟨l.map Int.toNat, ?_, ?_⟩
  · unfold ofN
    rw [List.map_map]
    conv => lhs; rw [← List.map_id l]
    apply List.map_congr_left
    intro x hx
    have := u8_range (h x hx)
    simp only [id, Function.comp]
    show x = ((x.toNat : Nat) : Int)
    omega
  · intro n hn
    obtain ⟨x, hx, rfl⟩ := List.mem_map.1 hn
    have := u8_range (h x hx)
    omega
theorem w64 {x : Int} (h0 : -9223372036854775808 ≤ x) (h1 : x < 9223372036854775808) : wrap64 x = x := by unfold wrap64; omega
theorem shr_nat (k : IntKind) (x n : Nat) (y : Int) (hy : y = (n : Int)) (h : n ≤ k.bits) : shr k (x : Int) y = ((x / 2 ^ n : Nat) : Int) := by
  subst hy
  unfold shr
  rw [Int.toNat_natCast, Nat.min_eq_left h]
  simp
end Go.Proofs.Ytjjbofbkpmabbaa.U
