import Derived.Test.YtfffnogmkbbfkaaDoorX
import Derived.Laws.BitsAllLaws
namespace Go.Proofs.YtfffnogmkbbfkaaDoor.U
open Go.RowKit Go.Proofs.YtfffnogmkbbfkaaDoorW.PrintWords Go.Proofs.YtfffnogmkbbfkaaDoorW.PrintLast
set_option linter.unusedVariables false
set_option linter.unusedSimpArgs false
def ofN (ns : List Nat) : List Int := ns.map Int.ofNat
@[simp] theorem ofN_nil : ofN [] = [] := rfl
@[simp] theorem ofN_cons (n : Nat) (ns : List Nat) : ofN (n :: ns) = (n : Int) :: ofN ns := rfl
@[simp] theorem ofN_append (a b : List Nat) : ofN (a ++ b) = ofN a ++ ofN b := by simp [ofN]
@[simp] theorem ofN_length (a : List Nat) : (ofN a).length = a.length := by simp [ofN]
theorem ofN_take (a : List Nat) (n : Nat) : (ofN a).take n = ofN (a.take n) := by simp [ofN, List.map_take]
theorem ofN_drop (a : List Nat) (n : Nat) : (ofN a).drop n = ofN (a.drop n) := by simp [ofN, List.map_drop]
theorem ofN_set (a : List Nat) (n m : Nat) : (ofN a).set n (m : Int) = ofN (a.set n m) := by simp [ofN, List.map_set]
theorem rd_ofN (a : List Nat) (i : Int) : rd (ofN a) i = ((a.getD i.toNat 0 : Nat) : Int) := by
  unfold rd ofN
  rw [List.getD_eq_getElem?_getD, List.getD_eq_getElem?_getD, List.getElem?_map]
  cases a[i.toNat]? <;> rfl
theorem rd_at (a b : List Nat) (x : Nat) (i : Int) (h : i = a.length) : rd (ofN (a ++ x :: b)) i = (x : Int) := by
  subst h
  rw [rd_ofN]
  simp
theorem ofN_inj {a b : List Nat} (h : ofN a = ofN b) : a = b := by
  induction a generalizing b with
  | nil => cases b with
    | nil => rfl
    | cons y b => simp at h
  | cons x a ih =>
    cases b with
    | nil => simp at h
    | cons y b =>
      simp at h
      obtain ⟨h1, h2⟩ := h
      have h3 : x = y := by omega
      rw [h3, ih h2]
theorem u8_range {x : Int} (h : (Lit.int .u8 x).wf = true) : 0 ≤ x ∧ x < 256 := by
  simp [Lit.wf, IntKind.min, IntKind.max, IntKind.bits, IntKind.signed] at h
  omega
theorem bytes_of {l : List Int} (h : ∀ x ∈ l, (Lit.int .u8 x).wf = true) : ∃ ns : List Nat, l = ofN ns ∧ ∀ n ∈ ns, n < 256 := by
  refine ⟨l.map Int.toNat, ?_, ?_⟩
  · unfold ofN
    rw [List.map_map]
    conv => lhs; rw [← List.map_id l]
    apply List.map_congr_left
    intro x hx
    have := u8_range (h x hx)
    simp only [id, Function.comp]
    show x = ((x.toNat : Nat) : Int)
    omega
  · intro n hn
    obtain ⟨x, hx, rfl⟩ := List.mem_map.1 hn
    have := u8_range (h x hx)
    omega
theorem w64 {x : Int} (h0 : -9223372036854775808 ≤ x) (h1 : x < 9223372036854775808) : wrap64 x = x := by unfold wrap64; omega
theorem str_eq {a b : List Nat} (ha : ∀ x ∈ a, x < 256) (hb : ∀ x ∈ b, x < 256) : ((strOfNums (ofN a)).toList == (strOfNums (ofN b)).toList) = (a == b) := by
  have e : ∀ c : List Nat, (strOfNums (ofN c)).toList = c.map UInt8.ofNat := by
    intro c
    rw [ByteArray.toList_eq]
    simp [strOfNums, ofN, List.map_map, Function.comp_def]
  rw [e, e, Bool.eq_iff_iff]
  simp only [beq_iff_eq]
  constructor
  · intro h
    induction a generalizing b with
    | nil => cases b with
      | nil => rfl
      | cons y b => simp at h
    | cons x a ih =>
      cases b with
      | nil => simp at h
      | cons y b =>
        simp only [List.map_cons, List.cons.injEq] at h
        have hx := ha x (by simp)
        have hy := hb y (by simp)
        have h1 : x = y := by
          have := congrArg UInt8.toNat h.1
          rw [UInt8.toNat_ofNat', UInt8.toNat_ofNat'] at this
          omega
        rw [h1, ih (fun z hz => ha z (by simp [hz])) (fun z hz => hb z (by simp [hz])) h.2]
  · rintro rfl
    rfl
theorem shr_nat (k : IntKind) (x n : Nat) (y : Int) (hy : y = (n : Int)) (h : n ≤ k.bits) : shr k (x : Int) y = ((x / 2 ^ n : Nat) : Int) := by
  subst hy
  unfold shr
  rw [Int.toNat_natCast, Nat.min_eq_left h]
  simp
end Go.Proofs.YtfffnogmkbbfkaaDoor.U
