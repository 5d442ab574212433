import Derived.Test.YtfffnogmkbbfkaaDoorX
import Derived.Laws.BitsAllLaws
import Derived.Test.YtfffnogmkbbfkaaDoorHx0
import Derived.Test.YtfffnogmkbbfkaaDoorHx1
import Derived.Test.YtfffnogmkbbfkaaDoorHx2
import Derived.Test.YtfffnogmkbbfkaaDoorHx11
import Derived.Test.YtfffnogmkbbfkaaDoorHx12
import Derived.Test.YtfffnogmkbbfkaaDoorO
import Derived.Test.YtfffnogmkbbfkaaDoorHx3
import Derived.Test.YtfffnogmkbbfkaaDoorHx5
import Derived.Test.YtfffnogmkbbfkaaDoorHx13
import Derived.Lib.SlicesCompact
import Derived.Test.YtfffnogmkbbfkaaDoorHx4
import Derived.Test.YtfffnogmkbbfkaaDoorHx8
import Derived.Test.YtfffnogmkbbfkaaDoorHx9
import Derived.Test.YtfffnogmkbbfkaaDoorHx10
import Derived.Test.YtfffnogmkbbfkaaDoorHx14
namespace Go.Proofs.YtfffnogmkbbfkaaDoor.U
open Go.RowKit Go.Proofs.YtfffnogmkbbfkaaDoorW.PrintWords Go.Proofs.YtfffnogmkbbfkaaDoorW.PrintLast
set_option linter.unusedVariables false
set_option linter.unusedSimpArgs false
def ofN (ns : List Nat) : List Int := ns.map Int.ofNat
@[simp] theorem ofN_nil : ofN [] = [] := rfl
@[simp] theorem ofN_cons (n : Nat) (ns : List Nat) : ofN (n :: ns) = (n : Int) :: ofN ns := rfl
@[simp] theorem ofN_append (a b : List Nat) : ofN (a ++ b) = ofN a ++ ofN b := by simp [ofN]
@[simp] theorem ofN_length (a : List Nat) : (ofN a).length = a.length := by simp [ofN]
theorem ofN_take (a : List Nat) (n : Nat) : (ofN a).take n = ofN (a.take n) := by simp [ofN, List.map_take]
theorem ofN_drop (a : List Nat) (n : Nat) : (ofN a).drop n = ofN (a.drop n) := by simp [ofN, List.map_drop]
theorem ofN_set (a : List Nat) (n m : Nat) : (ofN a).set n (m : Int) = ofN (a.set n m) := by simp [ofN, List.map_set]
theorem rd_ofN (a : List Nat) (i : Int) : rd (ofN a) i = ((a.getD i.toNat 0 : Nat) : Int) := by
  unfold rd ofN
  rw [List.getD_eq_getElem?_getD, List.getD_eq_getElem?_getD, List.getElem?_map]
  cases a[i.toNat]? <;> rfl
theorem rd_at (a b : List Nat) (x : Nat) (i : Int) (h : i = a.length) : rd (ofN (a ++ x :: b)) i = (x : Int) := by
  subst h
  rw [rd_ofN]
  simp
theorem ofN_inj {a b : List Nat} (h : ofN a = ofN b) : a = b := by
  induction a generalizing b with
  | nil => cases b with
    | nil => rfl
    | cons y b => simp at h
  | cons x a ih =>
    cases b with
    | nil => simp at h
    | cons y b =>
      simp at h
      obtain ⟨h1, h2⟩ := h
      have h3 : x = y := by omega
      rw [h3, ih h2]
theorem u8_range {x : Int} (h : (Lit.int .u8 x).wf = true) : 0 ≤ x ∧ x < 256 := by
  simp [Lit.wf, IntKind.min, IntKind.max, IntKind.bits, IntKind.signed] at h
  omega
theorem bytes_of {l : List Int} (h : ∀ x ∈ l, (Lit.int .u8 x).wf = true) : ∃ ns : List Nat, l = ofN ns ∧ ∀ n ∈ ns, n < 256 := by
  refine ⟨l.map Int.toNat, ?_, ?_⟩
  · unfold ofN
    rw [List.map_map]
    conv => lhs; rw [← List.map_id l]
    apply List.map_congr_left
    intro x hx
    have := u8_range (h x hx)
    simp only [id, Function.comp]
    show x = ((x.toNat : Nat) : Int)
    omega
  · intro n hn
    obtain ⟨x, hx, rfl⟩ := List.mem_map.1 hn
    have := u8_range (h x hx)
    omega
theorem w64 {x : Int} (h0 : -9223372036854775808 ≤ x) (h1 : x < 9223372036854775808) : wrap64 x = x := by unfold wrap64; omega
theorem str_eq {a b : List Nat} (ha : ∀ x ∈ a, x < 256) (hb : ∀ x ∈ b, x < 256) : ((strOfNums (ofN a)).toList == (strOfNums (ofN b)).toList) = (a == b) := by
  have e : ∀ c : List Nat, (strOfNums (ofN c)).toList = c.map UInt8.ofNat := by
    intro c
    rw [ByteArray.toList_eq]
    simp [strOfNums, ofN, List.map_map, Function.comp_def]
  rw [e, e, Bool.eq_iff_iff]
  simp only [beq_iff_eq]
  constructor
  · intro h
    induction a generalizing b with
    | nil => cases b with
      | nil => rfl
      | cons y b => simp at h
    | cons x a ih =>
      cases b with
      | nil => simp at h
      | cons y b =>
        simp only [List.map_cons, List.cons.injEq] at h
        have hx := ha x (by simp)
        have hy := hb y (by simp)
        have h1 : x = y := by
          have := congrArg UInt8.toNat h.1
          rw [UInt8.toNat_ofNat', UInt8.toNat_ofNat'] at this
          omega
        rw [h1, ih (fun z hz => ha z (by simp [hz])) (fun z hz => hb z (by simp [hz])) h.2]
  · rintro rfl
    rfl
theorem shr_nat (k : IntKind) (x n : Nat) (y : Int) (hy : y = (n : Int)) (h : n ≤ k.bits) : shr k (x : Int) y = ((x / 2 ^ n : Nat) : Int) := by
  subst hy
  unfold shr
  rw [Int.toNat_natCast, Nat.min_eq_left h]
  simp
end Go.Proofs.YtfffnogmkbbfkaaDoor.U

namespace Go.Proofs.YtfffnogmkbbfkaaDoor.CrcA
def T (c : Nat) : Nat := (c / 2) ^^^ (if c % 2 = 1 then 3988292384 else 0)
def Tn : Nat → Nat → Nat
  | 0, c => c
  | n + 1, c => Tn n (T c)
def F : Nat → List Nat → Nat
  | c, [] => c
  | c, x :: xs => F (Tn 8 (c ^^^ x)) xs
def le : List Nat → Nat
  | [] => 0
  | x :: xs => x ^^^ (256 * le xs)
theorem T_lt {c : Nat} (h : c < 4294967296) : T c < 4294967296 := by
  unfold T
  have h1 : c / 2 < 2 ^ 32 := by omega
  have h2 : (if c % 2 = 1 then 3988292384 else 0) < 2 ^ 32 := by split <;> decide
  exact Nat.xor_lt_two_pow h1 h2
theorem Tn_lt (n : Nat) : ∀ {c : Nat}, c < 4294967296 → Tn n c < 4294967296 := by
  induction n with
  | zero => intro c h; exact h
  | succ n ih => intro c h; exact ih (T_lt h)
theorem xor_byte_lt {c x : Nat} (hc : c < 4294967296) (hx : x < 256) : c ^^^ x < 4294967296 :=
  Nat.xor_lt_two_pow (n := 32) hc (by omega)
theorem F_lt (xs : List Nat) : ∀ {c : Nat}, c < 4294967296 → (∀ x ∈ xs, x < 256) → F c xs < 4294967296 := by
  induction xs with
  | nil => intro c h _; exact h
  | cons x xs ih =>
    intro c h hx
    exact ih (Tn_lt 8 (xor_byte_lt h (hx x (by simp)))) (fun y hy => hx y (by simp [hy]))
def bytes4 (s : Nat) : List Nat := [s % 256, s / 256 % 256, s / 65536 % 256, s / 16777216 % 256]
theorem xor_high {a b : Nat} (h : a < 256) : a ^^^ (256 * b) = a + 256 * b := by
  have := Nat.two_pow_add_eq_or_of_lt (i := 8) (b := a) h b
  have e : a ^^^ (256 * b) = a ||| (256 * b) := by
    apply Nat.eq_of_testBit_eq
    intro i
    have h256 : 256 * b = b <<< 8 := by rw [Nat.shiftLeft_eq]; omega
    rw [Nat.testBit_xor, Nat.testBit_or, h256, Nat.testBit_shiftLeft]
    by_cases hi : i < 8
    · have : ¬ (8 ≤ i) := by omega
      simp [this]
    · have : a.testBit i = false := Nat.testBit_lt_two_pow (Nat.lt_of_lt_of_le h (by
        have : 2 ^ 8 ≤ 2 ^ i := Nat.pow_le_pow_right (by decide) (by omega)
        exact this))
      simp [this]
  rw [e, Nat.or_comm]
  have e2 : 256 * b = 2 ^ 8 * b := rfl
  rw [e2, ← this]
  omega
theorem le_cons {x : Nat} (h : x < 256) (xs : List Nat) : le (x :: xs) = x + 256 * le xs := by
  show x ^^^ (256 * le xs) = _
  exact xor_high h
theorem le_inj (xs : List Nat) : ∀ ys : List Nat, xs.length = ys.length → (∀ x ∈ xs, x < 256) → (∀ y ∈ ys, y < 256) → le xs = le ys → xs = ys := by
  induction xs with
  | nil => intro ys h _ _ _; simp at h; exact (List.eq_nil_of_length_eq_zero h.symm).symm
  | cons x xs ih =>
    intro ys h hx hy he
    obtain ⟨y, ys, rfl⟩ := List.exists_cons_of_length_eq_add_one h.symm
    have h1 := hx x (by simp)
    have h2 := hy y (by simp)
    rw [le_cons h1, le_cons h2] at he
    have : x = y := by omega
    subst this
    rw [ih ys (by simpa using h) (fun z hz => hx z (by simp [hz])) (fun z hz => hy z (by simp [hz])) (by omega)]
theorem bytes4_lt (s : Nat) : ∀ x ∈ bytes4 s, x < 256 := by
  intro x hx
  simp only [bytes4, List.mem_cons, List.not_mem_nil, or_false] at hx
  omega
def bytes (b : List Nat) : List Nat := b ++ bytes4 (4294967295 ^^^ F 4294967295 b)
theorem bytes_lt {b : List Nat} (hb : ∀ x ∈ b, x < 256) : ∀ x ∈ bytes b, x < 256 := by
  intro x hx
  rcases List.mem_append.1 hx with h | h
  · exact hb x h
  · exact bytes4_lt _ x h
theorem bytes_length (b : List Nat) : (bytes b).length = b.length + 4 := by simp [bytes, bytes4]
end Go.Proofs.YtfffnogmkbbfkaaDoor.CrcA

namespace Go.Proofs.YtfffnogmkbbfkaaDoor.CrcB
open Go.RowKit Go.Proofs.YtfffnogmkbbfkaaDoor.Fn Go.Proofs.YtfffnogmkbbfkaaDoorW.PrintWords Go.Proofs.YtfffnogmkbbfkaaDoorW.PrintLast Go.Proofs.YtfffnogmkbbfkaaDoor.U Go.Proofs.YtfffnogmkbbfkaaDoor.CrcA
set_option linter.unusedVariables false
set_option linter.unusedSimpArgs false
theorem step (c : Nat) (h : c < 4294967296) : Go.bits .xor .u32 ((c : Int) / 2) (Go.bits .and .u32 3988292384 ((-(Go.bits .and .u32 (c : Int) 1)) % 4294967296)) = ((T c : Nat) : Int) := by
  have e1 : Go.bits .and .u32 (c : Int) 1 = ((c % 2 : Nat) : Int) := by
    have := u32_and_nat c 1 h (by decide)
    rw [nat_mask1] at this
    exact this
  rw [e1]
  unfold T
  rcases Nat.mod_two_eq_zero_or_one c with h0 | h0
  · rw [h0, if_neg (by decide)]
    have e2 : Go.bits .and .u32 3988292384 ((-((0 : Nat) : Int)) % 4294967296) = ((0 : Nat) : Int) := by decide
    rw [e2]
    have := u32_xor_nat (c / 2) 0 (by omega) (by decide)
    rw [← this]
    rfl
  · rw [h0, if_pos rfl]
    have e2 : Go.bits .and .u32 3988292384 ((-((1 : Nat) : Int)) % 4294967296) = ((3988292384 : Nat) : Int) := by decide
    rw [e2]
    have := u32_xor_nat (c / 2) 3988292384 (by omega) (by decide)
    rw [← this]
    rfl
theorem l1_ev (d : Nat) : ∀ (c : Nat) (xs : List Int) (n i : Int) (r : Int), d ≤ 8 → c < 4294967296 → Ev (fun k => crc_More.l0 k ((Tn d c : Nat) : Int) xs n (wrap64 (i + 1))) r →
    Ev (fun k => crc_More.l1 k (c : Int) xs n i (8 - (d : Int))) r := by
  induction d with
  | zero =>
    intro c xs n i r _ _ h
    refine Ev.step (fun k => ?_) h
    simp only [crc_More.l1]
    rw [if_neg (by omega)]
    rfl
  | succ d ih =>
    intro c xs n i r hd hc h
    refine Ev.step (fun k => ?_) (ih (T c) xs n i r (by omega) (T_lt hc) h)
    simp only [crc_More.l1]
    rw [if_pos (by omega), step c hc, w64 (by omega) (by omega)]
    congr 1
    omega
theorem l0_ev (ys : List Nat) : ∀ (xs : List Nat) (c : Nat), c < 4294967296 → (∀ y ∈ ys, y < 256) → (xs ++ ys).length ≤ 140737488355328 →
    Ev (fun k => crc_More.l0 k (c : Int) (ofN (xs ++ ys)) ((xs ++ ys).length : Int) (xs.length : Int)) ((4294967295 ^^^ F c ys : Nat) : Int) := by
  induction ys with
  | nil =>
    intro xs c hc _ _
    refine Ev.step (fun k => ?_) (Ev.now _)
    simp only [crc_More.l0]
    rw [if_neg (by simp)]
    exact congrArg some (u32_xor_nat 4294967295 c (by decide) hc)
  | cons y ys ih =>
    intro xs c hc hy hl
    have hyb : y < 256 := hy y (by simp)
    have hcx : c ^^^ y < 4294967296 := xor_byte_lt hc hyb
    have h1 := ih (xs ++ [y]) (Tn 8 (c ^^^ y)) (Tn_lt 8 hcx) (fun z hz => hy z (by simp [hz])) (by simpa using hl)
    rw [List.append_assoc] at h1
    have hlen : (xs ++ [y]).length = xs.length + 1 := by simp
    rw [hlen] at h1
    have hlt : (xs.length : Int) < ((xs ++ y :: ys).length : Int) := by simp; omega
    have hb : (xs ++ y :: ys).length ≤ 140737488355328 := hl
    refine Ev.step (fun k => ?_) (l1_ev 8 (c ^^^ y) (ofN (xs ++ y :: ys)) ((xs ++ y :: ys).length : Int) (xs.length : Int) _ (by decide) hcx (Ev.congr (fun k => ?_) h1))
    · simp only [crc_More.l0]
      rw [if_pos hlt, if_pos (by omega), if_pos (by rw [ofN_length]; exact hlt), rd_at _ _ _ _ rfl]
      have e : ((y : Nat) : Int) % 4294967296 = (y : Int) := by omega
      rw [e, u32_xor_nat c y hc (by omega)]
      rfl
    · rw [w64 (by omega) (by omega)]
      rfl
theorem more_ev (sum : Nat) (xs : List Nat) (hs : sum < 4294967296) (hx : ∀ x ∈ xs, x < 256) (hl : xs.length ≤ 140737488355328) :
    Ev (fun k => crc_More.f k (sum : Int) (ofN xs)) ((4294967295 ^^^ F (4294967295 ^^^ sum) xs : Nat) : Int) := by
  have h := l0_ev xs [] (4294967295 ^^^ sum) (Nat.xor_lt_two_pow (n := 32) (by decide) hs) hx (by simpa using hl)
  refine Ev.congr (fun k => ?_) h
  unfold crc_More.f
  rw [← u32_xor_nat 4294967295 sum (by decide) hs, ofN_length]
  rfl
theorem sum_ev (xs : List Nat) (hx : ∀ x ∈ xs, x < 256) (hl : xs.length ≤ 140737488355328) :
    Ev (fun k => crc_Sum.f k (ofN xs)) ((4294967295 ^^^ F 4294967295 xs : Nat) : Int) := by
  have h := more_ev 0 xs (by decide) hx hl
  refine Ev.congr (fun k => ?_) (Ev.bind h (Ev.now _))
  rfl
theorem bytes_l0 (s : Nat) (j : Nat) : ∀ (xs : List Nat), j ≤ 4 → s < 4294967296 → xs.length ≤ 140737488355320 →
    Ev (fun k => crc_Bytes.l0 k (ofN (xs ++ (bytes4 s).take (4 - j))) (s : Int) (4 - (j : Int))) (ofN (xs ++ bytes4 s)) := by
  induction j with
  | zero =>
    intro xs _ _ _
    refine Ev.step (fun k => ?_) (Ev.now _)
    simp only [crc_Bytes.l0]
    rw [if_neg (by omega)]
    rfl
  | succ j ih =>
    intro xs hj hs hl
    refine Ev.step (fun k => ?_) (ih xs (by omega) hs hl)
    simp only [crc_Bytes.l0]
    rw [if_pos (by omega)]
    have e0 : wrap64 (8 * (4 - ((j + 1 : Nat) : Int))) = ((8 * (3 - j) : Nat) : Int) := by rw [w64 (by omega) (by omega)]; omega
    rw [e0, if_pos (by omega)]
    rw [if_pos (by simp [bytes4]; omega)]
    rw [shr_nat .u32 s (8 * (3 - j)) _ rfl (by simp [IntKind.bits]; omega)]
    have e1 : wrap64 (4 - ((j + 1 : Nat) : Int) + 1) = 4 - (j : Int) := by rw [w64 (by omega) (by omega)]; omega
    rw [e1]
    congr 1
    have e2 : (((s / 2 ^ (8 * (3 - j)) : Nat) : Int)) % 256 = ((s / 2 ^ (8 * (3 - j)) % 256 : Nat) : Int) := by omega
    rw [e2, ← ofN_nil, ← ofN_cons, ← ofN_append, List.append_assoc]
    congr 2
    have : j = 0 ∨ j = 1 ∨ j = 2 ∨ j = 3 := by omega
    rcases this with rfl | rfl | rfl | rfl <;> simp [bytes4]
theorem bytes_ev (xs : List Nat) (hx : ∀ x ∈ xs, x < 256) (hl : xs.length ≤ 140737488355320) : Ev (fun k => crc_Bytes.f k (ofN xs)) (ofN (CrcA.bytes xs)) := by
  have h := bytes_l0 (4294967295 ^^^ F 4294967295 xs) 4 xs (by decide) (Nat.xor_lt_two_pow (n := 32) (by decide) (F_lt xs (by decide) hx)) hl
  refine Ev.congr (fun k => ?_) (Ev.bind (sum_ev xs hx (by omega)) (f := fun k t => crc_Bytes.l0 k (ofN xs) t 0) ?_)
  · unfold crc_Bytes.f
    rw [ofN_length, w64 (by omega) (by omega), if_pos (by omega), if_pos (by omega)]
    simp only [Option.bind_some, List.length_nil]
    rw [if_pos (by omega)]
    rfl
  · refine Ev.congr (fun k => ?_) h
    simp
end Go.Proofs.YtfffnogmkbbfkaaDoor.CrcB
namespace Go.Proofs.YtfffnogmkbbfkaaDoor.CrcC
open Go.RowKit Go.Proofs.YtfffnogmkbbfkaaDoor.Fn Go.Proofs.YtfffnogmkbbfkaaDoorW.PrintWords Go.Proofs.YtfffnogmkbbfkaaDoorW.PrintLast Go.Proofs.YtfffnogmkbbfkaaDoor.U Go.Proofs.YtfffnogmkbbfkaaDoor.CrcA Go.Proofs.YtfffnogmkbbfkaaDoor.CrcB
theorem rstep (d : Nat) : ∀ c : Nat, d ≤ 8 → c < 4294967296 → Ev (fun k => q03_step.l0 k (c : Int) (8 - (d : Int))) ((Tn d c : Nat) : Int) := by
  induction d with
  | zero =>
    intro c _ _
    refine Ev.step (fun k => ?_) (Ev.now _)
    simp only [q03_step.l0]
    rw [if_neg (by omega)]
    rfl
  | succ d ih =>
    intro c hd hc
    refine Ev.step (fun k => ?_) (ih (T c) (by omega) (T_lt hc))
    simp only [q03_step.l0]
    have ew : wrap64 (8 - ((d + 1 : Nat) : Int) + 1) = 8 - (d : Int) := by rw [w64 (by omega) (by omega)]; omega
    have ed : Int.tdiv (c : Int) 2 % 4294967296 = ((c / 2 : Nat) : Int) := by
      rw [Int.tdiv_eq_ediv_of_nonneg (by omega)]; omega
    have em : Int.tmod (c : Int) 2 = ((c % 2 : Nat) : Int) := by
      rw [Int.tmod_eq_emod_of_nonneg (by omega)]; omega
    rw [if_pos (by omega), ew, ed, em]
    unfold T
    rcases Nat.mod_two_eq_zero_or_one c with h0 | h0
    · rw [h0, if_neg (by decide), if_neg (by decide)]
      simp
    · rw [h0, if_pos (by decide), if_pos rfl]
      have := u32_xor_nat (c / 2) 3988292384 (by omega) (by decide)
      rw [← this]
      rfl
theorem rstep_ev (c x : Nat) (hc : c < 4294967296) (hx : x < 256) : Ev (fun k => q03_step.f k (c : Int) (x : Int)) ((Tn 8 (c ^^^ x) : Nat) : Int) := by
  refine Ev.congr (fun k => ?_) (rstep 8 (c ^^^ x) (by decide) (xor_byte_lt hc hx))
  unfold q03_step.f
  have e : ((x : Nat) : Int) % 4294967296 = (x : Int) := by omega
  rw [e, u32_xor_nat c x hc (by omega)]
  rfl
theorem rl0_ev (ys : List Nat) : ∀ (xs : List Nat) (c : Nat), c < 4294967296 → (∀ y ∈ ys, y < 256) → (xs ++ ys).length ≤ 140737488355328 →
    Ev (fun k => q03_More.l0 k (ofN (xs ++ ys)) (c : Int) (xs.length : Int)) ((4294967295 - F c ys : Nat) : Int) := by
  induction ys with
  | nil =>
    intro xs c hc _ _
    refine Ev.step (fun k => ?_) (Ev.now _)
    simp only [q03_More.l0]
    rw [if_neg (by simp)]
    simp only [F]
    congr 1
    omega
  | cons y ys ih =>
    intro xs c hc hy hl
    have hyb : y < 256 := hy y (by simp)
    have hcx : c ^^^ y < 4294967296 := xor_byte_lt hc hyb
    have h1 := ih (xs ++ [y]) (Tn 8 (c ^^^ y)) (Tn_lt 8 hcx) (fun z hz => hy z (by simp [hz])) (by simpa using hl)
    rw [List.append_assoc] at h1
    have hlen : (xs ++ [y]).length = xs.length + 1 := by simp
    rw [hlen] at h1
    have hlt : (xs.length : Int) < ((xs ++ y :: ys).length : Int) := by simp; omega
    have hb : (xs ++ y :: ys).length ≤ 140737488355328 := hl
    refine Ev.step (fun k => ?_) (Ev.bind (rstep_ev c y hc hyb) (f := fun k t => q03_More.l0 k (ofN (xs ++ y :: ys)) t (wrap64 ((xs.length : Int) + 1))) (Ev.congr (fun k => ?_) h1))
    · simp only [q03_More.l0]
      rw [if_pos (by rw [ofN_length]; exact hlt), if_pos (by omega), rd_at _ _ _ _ rfl]
    · rw [w64 (by omega) (by omega)]
      rfl
theorem xor_all {c : Nat} (h : c < 4294967296) : 4294967295 ^^^ c = 4294967295 - c := by
  apply Nat.eq_of_testBit_eq
  intro i
  rw [Nat.testBit_xor]
  have e1 : 4294967295 - c = 2 ^ 32 - (c + 1) := by omega
  have e2 : (4294967295 : Nat) = 2 ^ 32 - 1 := by decide
  rw [e1, Nat.testBit_two_pow_sub_succ h, e2, Nat.testBit_two_pow_sub_one]
  by_cases hi : i < 32
  · simp [hi]
  · have : c.testBit i = false := Nat.testBit_lt_two_pow (Nat.lt_of_lt_of_le h (Nat.pow_le_pow_right (n := 2) (by decide) (by omega : 32 ≤ i)))
    simp [hi, this]
theorem rmore_ev (sum : Nat) (xs : List Nat) (hs : sum < 4294967296) (hx : ∀ x ∈ xs, x < 256) (hl : xs.length ≤ 140737488355328) :
    Ev (fun k => q03_More.f k (sum : Int) (ofN xs)) ((4294967295 ^^^ F (4294967295 ^^^ sum) xs : Nat) : Int) := by
  have hxs : 4294967295 ^^^ sum < 4294967296 := Nat.xor_lt_two_pow (n := 32) (by decide) hs
  have h := rl0_ev xs [] (4294967295 ^^^ sum) hxs hx (by simpa using hl)
  rw [xor_all (F_lt xs hxs hx)]
  refine Ev.congr (fun k => ?_) h
  unfold q03_More.f
  have : ((4294967295 - (sum : Int)) % 4294967296) = ((4294967295 ^^^ sum : Nat) : Int) := by rw [xor_all hs]; omega
  rw [this]
  rfl
theorem rsum_ev (xs : List Nat) (hx : ∀ x ∈ xs, x < 256) (hl : xs.length ≤ 140737488355328) :
    Ev (fun k => q03_Sum.f k (ofN xs)) ((4294967295 ^^^ F 4294967295 xs : Nat) : Int) :=
  Ev.congr (fun _ => rfl) (Ev.bind (rmore_ev 0 xs (by decide) hx hl) (Ev.now _))
theorem rbytes_ev (xs : List Nat) (hx : ∀ x ∈ xs, x < 256) (hl : xs.length ≤ 140737488355320) : Ev (fun k => q03_Bytes.f k (ofN xs)) (ofN (CrcA.bytes xs)) := by
  refine Ev.congr (fun k => ?_) (Ev.bind (rsum_ev xs hx (by omega)) (f := fun k t => some (ofN xs ++ [t % 256, t / 256 % 256, t / 65536 % 256, t / 16777216 % 256])) ?_)
  · unfold q03_Bytes.f
    congr 1
    funext t
    simp only [Option.bind_some, List.length_nil, List.nil_append, List.length_cons, ofN_length]
    rw [if_pos (by omega), if_pos (by omega)]
  · refine Ev.congr (fun k => ?_) (Ev.now _)
    congr 1
    unfold CrcA.bytes bytes4
    simp
end Go.Proofs.YtfffnogmkbbfkaaDoor.CrcC

namespace Go.Proofs.YtfffnogmkbbfkaaDoor.Pure
open Go.RowKit Go.Proofs.YtfffnogmkbbfkaaDoor.Fn Go.Proofs.YtfffnogmkbbfkaaDoorW.PrintWords Go.Proofs.YtfffnogmkbbfkaaDoorW.PrintLast Go.Proofs.YtfffnogmkbbfkaaDoor.U
set_option linter.unusedVariables false
set_option linter.unusedSimpArgs false
def hexS : ByteArray := ⟨#[48, 49, 50, 51, 52, 53, 54, 55, 56, 57, 97, 98, 99, 100, 101, 102]⟩
def hex2 (x : Int) : List Int := [bt hexS (x / 16), bt hexS (Go.bits .and .u8 x 15)]
theorem low_nib (x : Int) (h0 : 0 ≤ x) (h1 : x < 256) : 0 ≤ Go.bits .and .u8 x 15 ∧ Go.bits .and .u8 x 15 < 16 := by
  obtain ⟨n, rfl⟩ := Int.eq_ofNat_of_zero_le h0
  have hn : n < 256 := by omega
  have : ∀ n : Fin 256, 0 ≤ Go.bits .and .u8 (n.val : Int) 15 ∧ Go.bits .and .u8 (n.val : Int) 15 < 16 := by decide +kernel
  exact this ⟨n, hn⟩
theorem text_loop (l : List Int) (hl : l.length < 1099511627776) (hr : ∀ x ∈ l, 0 ≤ x ∧ x < 256) (d : Nat) : ∀ (i : Nat) (out : List Int), i + d = l.length → out.length = 2 * i →
    Ev (fun k => key_text.l0 k out l (l.length : Int) (i : Int)) (strOfNums (out ++ (l.drop i).flatMap hex2)) := by
  induction d with
  | zero =>
    intro i out hi ho
    obtain rfl : i = l.length := by omega
    refine Ev.step (f := fun _ => some (strOfNums (out ++ (l.drop l.length).flatMap hex2))) (fun k => ?_) (Ev.now _)
    simp only [key_text.l0]
    rw [if_neg (by omega), List.drop_length]
    simp
  | succ d ih =>
    intro i out hi ho
    have hlt : i < l.length := by omega
    have hx := hr (l[i]) (List.getElem_mem hlt)
    have er : rd l (i : Int) = l[i] := by unfold rd; rw [Int.toNat_natCast, List.getD_eq_getElem?_getD, List.getElem?_eq_getElem hlt]; rfl
    have hb := low_nib _ hx.1 hx.2
    have ei : wrap64 ((i : Int) + 1) = ((i + 1 : Nat) : Int) := by rw [w64 (by omega) (by omega)]; omega
    have h16 : 0 ≤ l[i] / 16 ∧ l[i] / 16 < 16 := by omega
    have hstep := ih (i + 1) (out ++ hex2 l[i]) (by omega) (by rw [List.length_append, ho]; simp [hex2]; omega)
    rw [List.append_assoc, show hex2 l[i] ++ (l.drop (i + 1)).flatMap hex2 = (l.drop i).flatMap hex2 from by rw [List.drop_eq_getElem_cons hlt, List.flatMap_cons]] at hstep
    refine Ev.step (fun k => ?_) hstep
    simp only [key_text.l0]
    rw [if_pos (by omega), if_pos (by omega), if_pos (by omega), er, if_pos h16.1, if_pos h16.2, if_pos hb.1, if_pos hb.2, Option.bind_some, if_pos (by rw [ho]; simp; omega), ei]
    rfl
def hexOf (l : List Int) : ByteArray := strOfNums (l.flatMap hex2)
theorem text_ev (l : List Int) (hl : l.length < 1099511627776) (hr : ∀ x ∈ l, 0 ≤ x ∧ x < 256) : Ev (fun k => key_text.f k l) (hexOf l) := by
  have h := text_loop l hl hr l.length 0 [] (by omega) rfl
  refine Ev.congr (fun k => ?_) h
  unfold key_text.f
  rw [w64 (x := 2 * (l.length : Int)) (by omega) (by omega), if_pos (by omega), if_pos (by omega)]
  rfl
def toU (n : Int) : UInt8 := UInt8.ofNat n.toNat
theorem nib_all : ∀ n : Fin 256, 16 * dg (toU (bt hexS ((n.val : Int) / 16))) + dg (toU (bt hexS (Go.bits .and .u8 (n.val : Int) 15))) = (n.val : Int) ∧ digs.contains (toU (bt hexS ((n.val : Int) / 16))) = true ∧ digs.contains (toU (bt hexS (Go.bits .and .u8 (n.val : Int) 15))) = true := by decide +kernel
theorem nib (x : Int) (h0 : 0 ≤ x) (h1 : x < 256) : 16 * dg (toU (bt hexS (x / 16))) + dg (toU (bt hexS (Go.bits .and .u8 x 15))) = x ∧ digs.contains (toU (bt hexS (x / 16))) = true ∧ digs.contains (toU (bt hexS (Go.bits .and .u8 x 15))) = true := by
  obtain ⟨n, rfl⟩ := Int.eq_ofNat_of_zero_le h0
  exact nib_all ⟨n, by omega⟩
def hexL (s : List Int) : List UInt8 := (s.flatMap hex2).map toU
theorem hexL_cons (x : Int) (s : List Int) : hexL (x :: s) = toU (bt hexS (x / 16)) :: toU (bt hexS (Go.bits .and .u8 x 15)) :: hexL s := rfl
theorem hexOf_list (s : List Int) : (hexOf s).data.toList = hexL s := by
  unfold hexOf strOfNums hexL
  rfl
theorem hexL_length : ∀ s : List Int, (hexL s).length = 2 * s.length
  | [] => rfl
  | x :: s => by rw [hexL_cons, List.length_cons, List.length_cons, hexL_length s, List.length_cons]; omega
theorem hexL_digs : ∀ s : List Int, (∀ x ∈ s, 0 ≤ x ∧ x < 256) → (hexL s).all (digs.contains ·) = true
  | [], _ => rfl
  | x :: s, h => by
    have hx := nib x (h x List.mem_cons_self).1 (h x List.mem_cons_self).2
    rw [hexL_cons, List.all_cons, List.all_cons, hx.2.1, hx.2.2, hexL_digs s (fun y hy => h y (List.mem_cons_of_mem _ hy))]
    rfl
theorem isKey_hex (s : List Int) (h : ∀ x ∈ s, 0 ≤ x ∧ x < 256) (hl : s.length = 32) : isKey (hexOf s) = true := by
  have e : (hexOf s).size = 64 := by
    have := hexL_length s
    rw [← hexOf_list, Array.length_toList] at this
    exact this.trans (by omega)
  unfold isKey
  rw [hexOf_list, hexL_digs s h, decide_eq_true e]
  rfl
theorem refText_all : ∀ n : Fin 256, 0 ≤ (Int.tdiv (n.val : Int) 16) % 256 ∧ ((Int.tdiv (n.val : Int) 16) % 256) + 1 ≤ 16 ∧ 0 ≤ wrap64 (Int.tmod (n.val : Int) 16) ∧ wrap64 (Int.tmod (n.val : Int) 16) ≤ wrap64 (wrap64 (Int.tmod (n.val : Int) 16) + 1) ∧ wrap64 (wrap64 (Int.tmod (n.val : Int) 16) + 1) ≤ 16 ∧
    hexS.extract ((Int.tdiv (n.val : Int) 16) % 256).toNat (((Int.tdiv (n.val : Int) 16) % 256) + 1).toNat = ⟨#[toU (bt hexS ((n.val : Int) / 16))]⟩ ∧
    hexS.extract (wrap64 (Int.tmod (n.val : Int) 16)).toNat (wrap64 (wrap64 (Int.tmod (n.val : Int) 16) + 1)).toNat = ⟨#[toU (bt hexS (Go.bits .and .u8 (n.val : Int) 15))]⟩ := by decide +kernel
theorem refText_nib (x : Int) (h0 : 0 ≤ x) (h1 : x < 256) : 0 ≤ (Int.tdiv x 16) % 256 ∧ ((Int.tdiv x 16) % 256) + 1 ≤ 16 ∧ 0 ≤ wrap64 (Int.tmod x 16) ∧ wrap64 (Int.tmod x 16) ≤ wrap64 (wrap64 (Int.tmod x 16) + 1) ∧ wrap64 (wrap64 (Int.tmod x 16) + 1) ≤ 16 ∧
    hexS.extract ((Int.tdiv x 16) % 256).toNat (((Int.tdiv x 16) % 256) + 1).toNat = ⟨#[toU (bt hexS (x / 16))]⟩ ∧
    hexS.extract (wrap64 (Int.tmod x 16)).toNat (wrap64 (wrap64 (Int.tmod x 16) + 1)).toNat = ⟨#[toU (bt hexS (Go.bits .and .u8 x 15))]⟩ := by
  obtain ⟨n, rfl⟩ := Int.eq_ofNat_of_zero_le h0
  exact refText_all ⟨n, by omega⟩
theorem str_hex (a : List Int) (x : Int) : strOfNums a ++ ⟨#[toU (bt hexS (x / 16))]⟩ ++ ⟨#[toU (bt hexS (Go.bits .and .u8 x 15))]⟩ = strOfNums (a ++ hex2 x) := by
  apply ByteArray.ext
  simp [strOfNums, hex2, toU, ByteArray.data_append]
theorem str_size (a : List Int) : (strOfNums a).size = a.length := by
  show (strOfNums a).data.size = _
  simp [strOfNums]
theorem refText_step (X Y Z : Int) (s h1 h2 : ByteArray) (F : ByteArray → Option ByteArray) (n1 : 0 ≤ X) (n2 : X + 1 ≤ 16) (n3 : 0 ≤ Y) (n4 : Y ≤ Z) (n5 : Z ≤ 16) (n6 : hexS.extract X.toNat (X + 1).toNat = h1) (n7 : hexS.extract Y.toNat Z.toNat = h2)
    (z1 : h1.size = 1) (z2 : h2.size = 1) (hs : s.size + 2 ≤ 9223372036854775807) :
    (if 0 ≤ X then (if X ≤ X + 1 then (if X + 1 ≤ 16 then (if s.size + (hexS.extract X.toNat (X + 1).toNat).size ≤ 9223372036854775807 then (if 0 ≤ Y then (if Y ≤ Z then (if Z ≤ 16 then (if (s ++ hexS.extract X.toNat (X + 1).toNat).size + (hexS.extract Y.toNat Z.toNat).size ≤ 9223372036854775807 then F ((s ++ hexS.extract X.toNat (X + 1).toNat) ++ hexS.extract Y.toNat Z.toNat) else none) else none) else none) else none) else none) else none) else none) else none) = F (s ++ h1 ++ h2) := by
  rw [n6, n7, if_pos n1, if_pos (by omega), if_pos n2, if_pos (by omega), if_pos n3, if_pos n4, if_pos n5, if_pos (by rw [ByteArray.size_append]; omega)]
theorem refText_loop (l : List Int) (hl : l.length < 1099511627776) (hr : ∀ x ∈ l, 0 ≤ x ∧ x < 256) (d : Nat) : ∀ (i : Nat) (out : List Int), i + d = l.length → out.length = 2 * i →
    Ev (fun k => q07_text.l0 k l (strOfNums out) (i : Int)) (strOfNums (out ++ (l.drop i).flatMap hex2)) := by
  induction d with
  | zero =>
    intro i out hi ho
    obtain rfl : i = l.length := by omega
    refine Ev.step (f := fun _ => some (strOfNums (out ++ (l.drop l.length).flatMap hex2))) (fun k => ?_) (Ev.now _)
    simp only [q07_text.l0]
    rw [if_neg (by omega), List.drop_length]
    simp
  | succ d ih =>
    intro i out hi ho
    have hlt : i < l.length := by omega
    have hx := hr (l[i]) (List.getElem_mem hlt)
    have er : rd l (i : Int) = l[i] := by unfold rd; rw [Int.toNat_natCast, List.getD_eq_getElem?_getD, List.getElem?_eq_getElem hlt]; rfl
    have ei : wrap64 ((i : Int) + 1) = ((i + 1 : Nat) : Int) := by rw [w64 (by omega) (by omega)]; omega
    have c1 : (i : Int) < (l.length : Int) := by omega
    have c2 : (0 : Int) ≤ (i : Int) := by omega
    have hz : (strOfNums out).size + 2 ≤ 9223372036854775807 := by rw [str_size]; omega
    have hstep := ih (i + 1) (out ++ hex2 l[i]) (by omega) (by rw [List.length_append, ho]; simp [hex2]; omega)
    rw [List.append_assoc, show hex2 l[i] ++ (l.drop (i + 1)).flatMap hex2 = (l.drop i).flatMap hex2 from by rw [List.drop_eq_getElem_cons hlt, List.flatMap_cons]] at hstep
    refine Ev.step (fun k => ?_) hstep
    rw [← str_hex, ← ei]
    generalize l[i] = x at hx er
    obtain ⟨n1, n2, n3, n4, n5, n6, n7⟩ := refText_nib _ hx.1 hx.2
    have st := refText_step _ _ _ (strOfNums out) _ _ (fun z => q07_text.l0 k l z (wrap64 ((i : Int) + 1))) n1 n2 n3 n4 n5 n6 n7 rfl rfl hz
    simp only [q07_text.l0]
    rw [if_pos c1, if_pos c2, er]
    exact st
theorem refText_ev (l : List Int) (hl : l.length < 1099511627776) (hr : ∀ x ∈ l, 0 ≤ x ∧ x < 256) : Ev (fun k => q07_text.f k l) (hexOf l) := by
  have h := refText_loop l hl hr l.length 0 [] (by omega) rfl
  refine Ev.congr (fun k => ?_) h
  unfold q07_text.f
  rfl
def fromOf (l : List Int) : ByteArray × Int := if (l.length : Int) = 32 then (hexOf l, 0) else (⟨#[]⟩, 70)
theorem from_ev (l : List Int) (hb : ∀ x ∈ l, 0 ≤ x ∧ x < 256) (hl : l.length < 1099511627776) : Ev (fun k => key_From.f k l) (fromOf l) := by
  unfold key_From.f fromOf
  by_cases h : (l.length : Int) = 32
  · simp only [if_pos h]
    exact Ev.bind (f := fun _ t => some (t, (0 : Int))) (text_ev l hl hb) (Ev.now _)
  · simp only [if_neg h]
    exact Ev.now _
theorem refFrom_ev (l : List Int) (hb : ∀ x ∈ l, 0 ≤ x ∧ x < 256) (hl : l.length < 1099511627776) : Ev (fun k => q07_From.f k l) (fromOf l) := by
  unfold q07_From.f fromOf
  by_cases h : (l.length : Int) = 32
  · simp only [if_pos h]
    exact Ev.bind (f := fun _ t => some (t, (0 : Int))) (refText_ev l hl hb) (Ev.now _)
  · simp only [if_neg h]
    exact Ev.now _
theorem keyBytes_all (s : ByteArray) : key_Bytes.f s = some (if isKey s then (keyRow s, 0) else ([], 70)) := by
  unfold key_Bytes.f
  cases isKey s <;> rfl
theorem keyCheck_all (s : ByteArray) : key_Check.f s = some (isKey s) := by
  unfold key_Check.f
  rw [keyBytes_all]
  cases isKey s <;> rfl
theorem hexS_dg_all : ∀ n : Fin 16, toU (bt hexS (n.val : Int)) = digs.getD n.val 0 := by decide +kernel
theorem dg_back_all : ∀ c ∈ digs, digs.getD (dg c).toNat 0 = c := by decide +kernel
theorem low_dg (p q : Int) (h0 : 0 ≤ p) (h1 : p ≤ 15) (h2 : 0 ≤ q) (h3 : q ≤ 15) : Go.bits .and .u8 (16 * p + q) 15 = q ∧ (16 * p + q) / 16 = p := by
  have : ∀ n m : Fin 16, Go.bits .and .u8 (16 * (n.1 : Int) + (m.1 : Int)) 15 = (m.1 : Int) := by decide +kernel
  have h := this ⟨p.toNat, by omega⟩ ⟨q.toNat, by omega⟩
  have e1 : ((p.toNat : Nat) : Int) = p := Int.toNat_of_nonneg h0
  have e2 : ((q.toNat : Nat) : Int) = q := Int.toNat_of_nonneg h2
  rw [e1, e2] at h
  exact ⟨h, by omega⟩
theorem dg_back (c : UInt8) (h : digs.contains c = true) : toU (bt hexS (dg c)) = c := by
  have hr := dg_range c h
  have h1 := hexS_dg_all ⟨(dg c).toNat, by omega⟩
  rw [show (((⟨(dg c).toNat, by omega⟩ : Fin 16).val : Nat) : Int) = dg c from Int.toNat_of_nonneg hr.1] at h1
  rw [h1]
  exact dg_back_all c (by simpa using h)
theorem hexL_pairs : ∀ (n : Nat) (l : List UInt8), l.length = 2 * n → (∀ c ∈ l, digs.contains c = true) → hexL ((List.range n).map fun j => 16 * dg (l.getD (2 * j) 0) + dg (l.getD (2 * j + 1) 0)) = l
  | 0, l, hl, _ => by
    have : l = [] := List.eq_nil_of_length_eq_zero (by omega)
    subst this; rfl
  | n + 1, l, hl, hc => by
    match l, hl, hc with
    | x :: y :: l, hl, hc =>
      have hx := hc x (by simp)
      have hy := hc y (by simp)
      have rx := dg_range x hx
      have ry := dg_range y hy
      have ih := hexL_pairs n l (by simp at hl; omega) (fun c h => hc c (by simp [h]))
      obtain ⟨lo, hi⟩ := low_dg (dg x) (dg y) rx.1 rx.2 ry.1 ry.2
      rw [List.range_succ_eq_map, List.map_cons, List.map_map, hexL_cons]
      have e : ((fun j => 16 * dg ((x :: y :: l).getD (2 * j) 0) + dg ((x :: y :: l).getD (2 * j + 1) 0)) ∘ Nat.succ) = fun j => 16 * dg (l.getD (2 * j) 0) + dg (l.getD (2 * j + 1) 0) := by
        funext j
        show 16 * dg ((x :: y :: l).getD (2 * (j + 1)) 0) + dg ((x :: y :: l).getD (2 * (j + 1) + 1) 0) = _
        rw [show 2 * (j + 1) = 2 * j + 1 + 1 from by omega, List.getD_cons_succ, List.getD_cons_succ, List.getD_cons_succ, List.getD_cons_succ]
      rw [e, ih]
      show toU (bt hexS ((16 * dg x + dg y) / 16)) :: toU (bt hexS (Go.bits .and .u8 (16 * dg x + dg y) 15)) :: l = _
      rw [lo, hi, dg_back x hx, dg_back y hy]
theorem isKey_parts {s : ByteArray} (h : isKey s = true) : s.size = 64 ∧ ∀ c ∈ s.data.toList, digs.contains c = true := by
  unfold isKey at h
  rw [Bool.and_eq_true, decide_eq_true_eq, List.all_eq_true] at h
  exact h
theorem hexOf_keyRow {s : ByteArray} (h : isKey s = true) : hexOf (keyRow s) = s := by
  obtain ⟨h1, h2⟩ := isKey_parts h
  have hl : s.data.toList.length = 2 * 32 := by rw [Array.length_toList]; exact h1
  have e : keyRow s = (List.range 32).map fun j => 16 * dg (s.data.toList.getD (2 * j) 0) + dg (s.data.toList.getD (2 * j + 1) 0) := by
    unfold keyRow keyAt
    apply List.map_congr_left
    intro j hj
    have := List.mem_range.1 hj
    rw [if_pos (by omega), if_pos (by omega)]
  have h3 := hexL_pairs 32 s.data.toList hl h2
  rw [← e, ← hexOf_list] at h3
  apply ByteArray.ext
  apply Array.toList_inj.1
  exact h3
theorem keyRow_length (s : ByteArray) : (keyRow s).length = 32 := keyAt_length _ _
theorem keyRow_range {s : ByteArray} (h : isKey s = true) : ∀ x ∈ keyRow s, 0 ≤ x ∧ x < 256 := by
  obtain ⟨h1, h2⟩ := isKey_parts h
  have hl : s.data.toList.length = 64 := by rw [Array.length_toList]; exact h1
  intro x hx
  unfold keyRow keyAt at hx
  obtain ⟨j, hj, rfl⟩ := List.mem_map.1 hx
  have := List.mem_range.1 hj
  rw [if_pos (by omega), if_pos (by omega)]
  have g : ∀ i, i < 64 → digs.contains (s.data.toList.getD i 0) = true := fun i hi => by
    rw [List.getD_eq_getElem?_getD, List.getElem?_eq_getElem (by omega)]
    exact h2 _ (List.getElem_mem _)
  have r1 := dg_range _ (g (2 * j) (by omega))
  have r2 := dg_range _ (g (2 * j + 1) (by omega))
  omega
end Go.Proofs.YtfffnogmkbbfkaaDoor.Pure

namespace Go.Proofs.YtfffnogmkbbfkaaDoor.SupN
open Go.Lib
set_option linter.unusedVariables false
set_option linter.unusedSimpArgs false
theorem comp_mem (d : Array Int) (m : Nat) : ∀ y, y ∈ compactUpTo d m → ∃ j, j < m ∧ d[j]! = y := by
  intro y hy
  unfold compactUpTo at hy
  obtain ⟨j, hj, rfl⟩ := List.mem_map.1 hy
  exact ⟨j, List.mem_range.1 (List.mem_filter.1 hj).1, rfl⟩
theorem mem_comp (d : Array Int) : ∀ m : Nat, ∀ j, j < m → d[j]! ∈ compactUpTo d m := by
  intro m
  induction m with
  | zero => intro j hj; omega
  | succ m ih =>
    intro j hj
    rw [compactUpTo_succ]
    by_cases h : j < m
    · exact List.mem_append_left _ (ih j h)
    · obtain rfl : j = m := by omega
      cases hk : keeps d j with
      | true => rw [if_pos rfl]; exact List.mem_append_right _ (List.mem_singleton.2 rfl)
      | false =>
        have hk' : ¬ (j = 0 ∨ d[j]! ≠ d[j - 1]!) := by
          unfold keeps at hk
          exact of_decide_eq_false hk
        have h0 : j ≠ 0 := fun h => hk' (.inl h)
        have he : d[j]! = d[j - 1]! := Classical.byContradiction fun h => hk' (.inr h)
        rw [he]
        exact List.mem_append_left _ (ih (j - 1) (by omega))
theorem comp_rises (d : Array Int) (hs : ∀ i j, i ≤ j → j < d.size → d[i]! ≤ d[j]!) : ∀ m, m ≤ d.size → (compactUpTo d m).Pairwise (· < ·) := by
  intro m
  induction m with
  | zero => intro _; exact List.Pairwise.nil
  | succ m ih =>
    intro hm
    rw [compactUpTo_succ]
    cases hk : keeps d m with
    | false => rw [if_neg (by decide), List.append_nil]; exact ih (by omega)
    | true =>
      rw [if_pos rfl]
      refine List.pairwise_append.2 ⟨ih (by omega), List.pairwise_singleton _ _, ?_⟩
      intro a ha b hb
      obtain rfl := List.mem_singleton.1 hb
      obtain ⟨j, hj, rfl⟩ := comp_mem d m a ha
      have hk' : m = 0 ∨ d[m]! ≠ d[m - 1]! := by
        unfold keeps at hk
        exact of_decide_eq_true hk
      have h1 := hs j (m - 1) (by omega) (by omega)
      have h2 := hs (m - 1) m (by omega) (by omega)
      rcases hk' with h | h
      · omega
      · omega
theorem compact_rises (zs : List Int) (h : zs.Pairwise (· ≤ ·)) : (compact zs).Pairwise (· < ·) ∧ ∀ y, y ∈ compact zs ↔ y ∈ zs := by
  have hg : ∀ j, j < zs.length → zs.toArray[j]! = zs[j]! := fun j hj => by simp
  have hs : ∀ i j, i ≤ j → j < zs.toArray.size → zs.toArray[i]! ≤ zs.toArray[j]! := by
    intro i j hij hj
    have hj' : j < zs.length := by simpa using hj
    rw [hg i (by omega), hg j hj', getElem!_pos zs i (by omega), getElem!_pos zs j hj']
    rcases Nat.lt_or_ge i j with h1 | h1
    · exact List.pairwise_iff_getElem.1 h i j (by omega) hj' h1
    · obtain rfl : i = j := by omega
      exact Int.le_refl _
  refine ⟨comp_rises _ hs _ (by simp), fun y => ⟨fun hy => ?_, fun hy => ?_⟩⟩
  · obtain ⟨j, hj, rfl⟩ := comp_mem _ _ y hy
    rw [hg j hj, getElem!_pos zs j hj]
    exact List.getElem_mem hj
  · obtain ⟨j, hj, rfl⟩ := List.getElem_of_mem hy
    have := mem_comp zs.toArray zs.length j hj
    rw [hg j hj, getElem!_pos zs j hj] at this
    exact this
theorem rising_eq : ∀ (a b : List Int), a.Pairwise (· < ·) → b.Pairwise (· < ·) → (∀ y, y ∈ a ↔ y ∈ b) → a = b
  | [], [], _, _, _ => rfl
  | [], y :: b, _, _, h => absurd ((h y).2 List.mem_cons_self) (List.not_mem_nil)
  | x :: a, [], _, _, h => absurd ((h x).1 List.mem_cons_self) (List.not_mem_nil)
  | x :: a, y :: b, ha, hb, h => by
    obtain ⟨ha1, ha2⟩ := List.pairwise_cons.1 ha
    obtain ⟨hb1, hb2⟩ := List.pairwise_cons.1 hb
    have e : x = y := by
      have h1 := (h x).1 List.mem_cons_self
      have h2 := (h y).2 List.mem_cons_self
      rcases List.mem_cons.1 h1 with e | e
      · exact e
      · rcases List.mem_cons.1 h2 with e' | e'
        · exact e'.symm
        · have := hb1 x e; have := ha1 y e'; omega
    subst e
    congr 1
    refine rising_eq a b ha2 hb2 fun z => ⟨fun hz => ?_, fun hz => ?_⟩
    · rcases List.mem_cons.1 ((h z).1 (List.mem_cons_of_mem _ hz)) with e | e
      · have := ha1 z hz; omega
      · exact e
    · rcases List.mem_cons.1 ((h z).2 (List.mem_cons_of_mem _ hz)) with e | e
      · have := hb1 z hz; omega
      · exact e
def insR : List Int → Int → List Int
  | [], x => [x]
  | p :: ps, x => if p < x then p :: insR ps x else if p = x then p :: ps else x :: p :: ps
theorem mem_insR : ∀ (ps : List Int) (x y : Int), y ∈ insR ps x ↔ y = x ∨ y ∈ ps
  | [], x, y => by simp [insR]
  | p :: ps, x, y => by
    unfold insR
    split
    · rw [List.mem_cons, mem_insR ps x y, List.mem_cons]
      constructor
      · rintro (h | h | h)
        · exact .inr (.inl h)
        · exact .inl h
        · exact .inr (.inr h)
      · rintro (h | h | h)
        · exact .inr (.inl h)
        · exact .inl h
        · exact .inr (.inr h)
    · split
      · rename_i h; subst h
        constructor
        · exact .inr
        · rintro (h | h)
          · exact h ▸ List.mem_cons_self
          · exact h
      · rw [List.mem_cons]
theorem insR_rises : ∀ (ps : List Int) (x : Int), ps.Pairwise (· < ·) → (insR ps x).Pairwise (· < ·)
  | [], x, _ => List.pairwise_singleton _ _
  | p :: ps, x, h => by
    obtain ⟨h1, h2⟩ := List.pairwise_cons.1 h
    unfold insR
    split
    · refine List.pairwise_cons.2 ⟨fun z hz => ?_, insR_rises ps x h2⟩
      rcases (mem_insR ps x z).1 hz with e | e
      · omega
      · exact h1 z e
    · split
      · exact h
      · refine List.pairwise_cons.2 ⟨fun z hz => ?_, h⟩
        rcases List.mem_cons.1 hz with e | e
        · omega
        · have := h1 z e; omega
theorem insRs : ∀ (l acc : List Int), acc.Pairwise (· < ·) → (l.foldl insR acc).Pairwise (· < ·) ∧ ∀ y, y ∈ l.foldl insR acc ↔ y ∈ l ∨ y ∈ acc
  | [], acc, h => ⟨h, fun y => by simp⟩
  | x :: l, acc, h => by
    obtain ⟨a, b⟩ := insRs l (insR acc x) (insR_rises acc x h)
    refine ⟨a, fun y => ?_⟩
    rw [List.foldl_cons, b y, mem_insR, List.mem_cons]
    constructor
    · rintro (h | h | h)
      · exact .inl (.inr h)
      · exact .inl (.inl h)
      · exact .inr h
    · rintro ((h | h) | h)
      · exact .inr (.inl h)
      · exact .inl h
      · exact .inr (.inr h)
theorem packs_eq (l : List Int) : l.foldl insR [] = compact (l.mergeSort (fun x y => decide (x ≤ y))) := by
  have hs : (l.mergeSort (fun x y => decide (x ≤ y))).Pairwise (· ≤ ·) := by
    have := List.pairwise_mergeSort (le := fun x y : Int => decide (x ≤ y)) (fun a b c h1 h2 => by simp at *; omega) (fun a b => by simp; omega) l
    exact this.imp fun h => by simpa using h
  obtain ⟨c1, c2⟩ := compact_rises _ hs
  obtain ⟨i1, i2⟩ := insRs l [] List.Pairwise.nil
  refine rising_eq _ _ i1 c1 fun y => ?_
  rw [i2 y, c2 y, List.mem_mergeSort]
  simp
theorem insR_at : ∀ (ps : List Int) (x : Int) (i : Nat), (∀ j (h : j < ps.length), j < i → ps[j] < x) → i ≤ ps.length → (∀ h : i < ps.length, ¬ ps[i] < x) →
    insR ps x = if (∃ h : i < ps.length, ps[i] = x) then ps else ps.take i ++ [x] ++ ps.drop i
  | [], x, i, _, hi, _ => by
    obtain rfl : i = 0 := by simpa using hi
    rw [if_neg (by rintro ⟨h, _⟩; simp at h)]
    rfl
  | p :: ps, x, 0, _, _, h3 => by
    have hp : ¬ p < x := h3 (by simp)
    unfold insR
    rw [if_neg hp]
    by_cases e : p = x
    · rw [if_pos e, if_pos ⟨by simp, e⟩]
    · rw [if_neg e, if_neg (by rintro ⟨_, h⟩; exact e h)]
      rfl
  | p :: ps, x, i + 1, h1, h2, h3 => by
    have hp : p < x := h1 0 (by simp) (by omega)
    have ih := insR_at ps x i (fun j h hj => h1 (j + 1) (by simpa using h) (by omega)) (by simpa using h2) (fun h => h3 (by simpa using h))
    unfold insR
    rw [if_pos hp, ih]
    by_cases e : ∃ h : i < ps.length, ps[i] = x
    · obtain ⟨h, e⟩ := e
      rw [if_pos ⟨h, e⟩, if_pos ⟨by simpa using h, e⟩]
    · rw [if_neg e, if_neg (by rintro ⟨h, e'⟩; exact e ⟨by simpa using h, e'⟩)]
      rfl
end Go.Proofs.YtfffnogmkbbfkaaDoor.SupN

namespace Go.Proofs.YtfffnogmkbbfkaaDoor.SupA
open Go.RowKit Go.Proofs.YtfffnogmkbbfkaaDoorW.PrintWords Go.Proofs.YtfffnogmkbbfkaaDoorW.PrintLast Go.Proofs.YtfffnogmkbbfkaaDoor.U Go.Proofs.YtfffnogmkbbfkaaDoor.CrcA Go.Proofs.YtfffnogmkbbfkaaDoor.Pure
set_option linter.unusedVariables false
set_option linter.unusedSimpArgs false
def bytes8 (x : Nat) : List Nat := (List.range 8).map fun i => x / 2 ^ (8 * i) % 256
theorem bytes8_length (x : Nat) : (bytes8 x).length = 8 := by simp [bytes8]
theorem bytes8_lt (x : Nat) : ∀ y ∈ bytes8 x, y < 256 := by
  intro y hy
  obtain ⟨i, _, rfl⟩ := List.mem_map.1 hy
  exact Nat.mod_lt _ (by decide)
theorem bytes8_get (x i : Nat) (hi : i < 8) : (bytes8 x)[i]? = some (x / 2 ^ (8 * i) % 256) := by simp [bytes8, hi]
theorem le_lt : ∀ l : List Nat, (∀ x ∈ l, x < 256) → le l < 2 ^ (8 * l.length)
  | [], _ => by simp [le]
  | x :: l, h => by
    have ih := le_lt l (fun y hy => h y (by simp [hy]))
    rw [le_cons (h x (by simp)), List.length_cons, show 8 * (l.length + 1) = 8 * l.length + 8 from by omega, Nat.pow_add]
    have := h x (by simp)
    omega
theorem le_append : ∀ a b : List Nat, (∀ x ∈ a, x < 256) → le (a ++ b) = le a + 2 ^ (8 * a.length) * le b
  | [], b, _ => by simp [le]
  | x :: a, b, h => by
    have ih := le_append a b (fun y hy => h y (by simp [hy]))
    rw [List.cons_append, le_cons (h x (by simp)), ih, le_cons (h x (by simp)), List.length_cons, show 8 * (a.length + 1) = 8 * a.length + 8 from by omega, Nat.pow_add, Nat.mul_add, ← Nat.mul_assoc, Nat.mul_comm (2 ^ (8 * a.length)) (2 ^ 8), Nat.add_assoc]
theorem le_take_succ (l : List Nat) (i : Nat) (hi : i < l.length) (h : ∀ x ∈ l, x < 256) : le (l.take (i + 1)) = le (l.take i) + l[i] * 2 ^ (8 * i) := by
  rw [List.take_succ_eq_append_getElem hi, le_append _ _ (fun x hx => h x (List.mem_of_mem_take hx)), le_cons (h _ (List.getElem_mem hi)), List.length_take, Nat.min_eq_left (by omega)]
  simp [le, Nat.mul_comm]
theorem le_bytes8 {x : Nat} (h : x < 18446744073709551616) : le (bytes8 x) = x := by
  have e : bytes8 x = [x % 256, x / 256 % 256, x / 65536 % 256, x / 16777216 % 256, x / 4294967296 % 256, x / 1099511627776 % 256, x / 281474976710656 % 256, x / 72057594037927936 % 256] := by
    simp [bytes8, List.range_succ]
  rw [e]
  iterate 8 rw [le_cons (Nat.mod_lt _ (by decide))]
  simp only [le]
  omega
theorem bytes8_le {l : List Nat} (hl : l.length = 8) (h : ∀ x ∈ l, x < 256) : bytes8 (le l) = l := by
  have hlt := le_lt l h
  rw [hl] at hlt
  exact le_inj _ _ (by rw [bytes8_length, hl]) (bytes8_lt _) h (le_bytes8 (Nat.lt_of_lt_of_eq hlt (by decide)))
def rises : Int → List Int → Bool
  | _, [] => true
  | m, p :: ps => decide (m < p) && decide (p < 62) && rises p ps
def mapOf : List Int → Nat
  | [] => 0
  | p :: ps => 2 ^ p.toNat ||| mapOf ps
theorem rises_mem : ∀ (ps : List Int) (m : Int), rises m ps = true → ∀ p ∈ ps, m < p ∧ p < 62
  | [], _, _, _, hp => by simp at hp
  | q :: ps, m, h, p, hp => by
    simp only [rises, Bool.and_eq_true, decide_eq_true_eq] at h
    rcases List.mem_cons.1 hp with rfl | hp
    · exact h.1
    · have := rises_mem ps q h.2 p hp; omega
theorem mapOf_lt : ∀ ps : List Int, (∀ p ∈ ps, 0 ≤ p ∧ p < 62) → mapOf ps < 2 ^ 62
  | [], _ => by decide
  | p :: ps, h => by
    have h1 := h p (by simp)
    exact Nat.or_lt_two_pow (Nat.pow_lt_pow_right (by decide) (by omega)) (mapOf_lt ps (fun q hq => h q (by simp [hq])))
theorem mapOf_bit : ∀ (ps : List Int) (q : Nat), (∀ p ∈ ps, 0 ≤ p) → ((mapOf ps).testBit q = true ↔ (q : Int) ∈ ps)
  | [], q, _ => by simp [mapOf]
  | p :: ps, q, h => by
    have h1 := h p (by simp)
    have ih := mapOf_bit ps q (fun r hr => h r (by simp [hr]))
    have e : (2 ^ p.toNat).testBit q = decide (p.toNat = q) := Nat.testBit_two_pow
    rw [mapOf, Nat.testBit_or, e, Bool.or_eq_true, ih, decide_eq_true_eq, List.mem_cons]
    constructor
    · rintro (h2 | h2)
      · left; omega
      · exact .inr h2
    · rintro (h2 | h2)
      · left; omega
      · exact .inr h2
def packsAt (M : Nat) : List Int := ((List.range' 0 62).filter fun p => M.testBit p).map Int.ofNat
theorem packs_filter (B : Nat → Bool) : ∀ (n a : Nat) (ps : List Int), a + n = 62 → rises ((a : Int) - 1) ps = true → (∀ q : Nat, a ≤ q → q < 62 → (B q = true ↔ (q : Int) ∈ ps)) → ((List.range' a n).filter B).map Int.ofNat = ps
  | 0, a, ps, ha, hr, _ => by
    cases ps with
    | nil => rfl
    | cons p ps =>
      have := rises_mem _ _ hr p (by simp)
      omega
  | n + 1, a, ps, ha, hr, hb => by
    rw [List.range'_succ]
    have hA := hb a (Nat.le_refl _) (by omega)
    cases ps with
    | nil =>
      have hBa : B a = false := by
        cases h : B a with
        | false => rfl
        | true => have := hA.1 h; simp at this
      rw [List.filter_cons_of_neg (by rw [hBa]; decide)]
      exact packs_filter B n (a + 1) [] (by omega) rfl (fun q h1 h2 => hb q (by omega) h2)
    | cons p ps =>
      have hr0 := hr
      simp only [rises, Bool.and_eq_true, decide_eq_true_eq] at hr
      by_cases hp : p = (a : Int)
      · have hBa : B a = true := hA.2 (by rw [hp]; simp)
        rw [List.filter_cons_of_pos hBa, List.map_cons, packs_filter B n (a + 1) ps (by omega) (by rw [show ((a + 1 : Nat) : Int) - 1 = (a : Int) from by omega, ← hp]; exact hr.2) (fun q h1 h2 => by
          rw [hb q (by omega) h2, List.mem_cons]
          constructor
          · rintro (h | h)
            · omega
            · exact h
          · exact .inr)]
        rw [hp]; rfl
      · have hBa : B a = false := by
          cases h : B a with
          | false => rfl
          | true =>
            rcases List.mem_cons.1 (hA.1 h) with h2 | h2
            · exact absurd h2.symm hp
            · have := rises_mem ps p hr.2 _ h2; omega
        rw [List.filter_cons_of_neg (by rw [hBa]; decide)]
        refine packs_filter B n (a + 1) (p :: ps) (by omega) ?_ (fun q h1 h2 => hb q (by omega) h2)
        simp only [rises, Bool.and_eq_true, decide_eq_true_eq]
        exact ⟨⟨by omega, hr.1.2⟩, hr.2⟩
theorem packsAt_mapOf {ps : List Int} (h : rises (-1) ps = true) : packsAt (mapOf ps) = ps :=
  packs_filter _ 62 0 ps rfl h (fun q _ _ => mapOf_bit ps q (fun p hp => by have := rises_mem ps _ h p hp; omega))
def okS (g : Int) (s : ByteArray) (ps : List Int) : Bool := rises (-1) ps && (decide (1 ≤ g) && (decide (g ≤ 4611686018427387903) && isKey s))
theorem okS_parts {g : Int} {s : ByteArray} {ps : List Int} (h : okS g s ps = true) : rises (-1) ps = true ∧ 1 ≤ g ∧ g ≤ 4611686018427387903 ∧ isKey s = true := by
  simp only [okS, Bool.and_eq_true, decide_eq_true_eq] at h
  exact ⟨h.1, h.2.1, h.2.2.1, h.2.2.2⟩
theorem rises_step : ∀ (ps : List Int) (m : Int), rises m ps = true → ∀ (i : Nat) (hi : i < ps.length), i ≠ 0 → ps.getD (i - 1) 0 < ps[i]
  | [], _, _, i, hi, _ => absurd hi (Nat.not_lt_zero _)
  | p :: ps, m, h, i, hi, h0 => by
    simp only [rises, Bool.and_eq_true, decide_eq_true_eq] at h
    obtain ⟨j, rfl⟩ : ∃ j, i = j + 1 := ⟨i - 1, by omega⟩
    have hj : j < ps.length := by simpa using hi
    rw [List.getElem_cons_succ, Nat.add_sub_cancel]
    by_cases hj0 : j = 0
    · subst hj0
      exact (rises_mem ps p h.2 _ (List.getElem_mem hj)).1
    · have := rises_step ps p h.2 j hj hj0
      obtain ⟨i, rfl⟩ : ∃ i, j = i + 1 := ⟨j - 1, by omega⟩
      rw [Nat.add_sub_cancel] at this
      rw [List.getD_cons_succ]
      exact this
theorem rises_len : ∀ (ps : List Int) (m : Int), m ≤ 61 → rises m ps = true → (ps.length : Int) ≤ 61 - m
  | [], m, hm, _ => by simp; omega
  | p :: ps, m, hm, h => by
    simp only [rises, Bool.and_eq_true, decide_eq_true_eq] at h
    have := rises_len ps p (by omega) h.2
    rw [List.length_cons]
    omega
theorem okS_len {g : Int} {s : ByteArray} {ps : List Int} (h : okS g s ps = true) : ps.length < 1152921504606846976 := by
  have := rises_len ps (-1) (by decide) (okS_parts h).1
  omega
def keyN (s : ByteArray) : List Nat := (keyRow s).map Int.toNat
theorem keyN_length (s : ByteArray) : (keyN s).length = 32 := by rw [keyN, List.length_map, keyRow_length]
theorem keyN_of {s : ByteArray} (h : isKey s = true) : ofN (keyN s) = keyRow s := by
  unfold ofN keyN
  rw [List.map_map]
  conv => rhs; rw [← List.map_id (keyRow s)]
  apply List.map_congr_left
  intro x hx
  have := keyRow_range h x hx
  show Int.ofNat x.toNat = x
  simp only [Int.ofNat_eq_natCast]
  omega
theorem keyN_lt {s : ByteArray} (h : isKey s = true) : ∀ x ∈ keyN s, x < 256 := by
  intro x hx
  obtain ⟨y, hy, rfl⟩ := List.mem_map.1 hx
  have := keyRow_range h y hy
  omega
def bodyV (g : Int) (s : ByteArray) (ps : List Int) : List Nat := [80, 76, 77, 80] ++ (bytes8 g.toNat ++ (keyN s ++ bytes8 (mapOf ps)))
theorem bodyV_length (g : Int) (s : ByteArray) (ps : List Int) : (bodyV g s ps).length = 52 := by
  simp [bodyV, bytes8_length, keyN_length]
theorem bodyV_lt {g : Int} {s : ByteArray} {ps : List Int} (h : isKey s = true) : ∀ x ∈ bodyV g s ps, x < 256 := by
  intro x hx
  rcases List.mem_append.1 hx with hx | hx
  · have : ∀ x ∈ [80, 76, 77, 80], x < 256 := by decide
    exact this x hx
  rcases List.mem_append.1 hx with hx | hx
  · exact bytes8_lt _ x hx
  rcases List.mem_append.1 hx with hx | hx
  · exact keyN_lt h x hx
  · exact bytes8_lt _ x hx
def putV (g : Int) (s : ByteArray) (ps : List Int) : List Nat := CrcA.bytes (bodyV g s ps) ++ List.replicate 200 0
theorem putV_length (g : Int) (s : ByteArray) (ps : List Int) : (putV g s ps).length = 256 := by
  rw [putV, List.length_append, bytes_length, bodyV_length, List.length_replicate]
theorem putV_lt {g : Int} {s : ByteArray} {ps : List Int} (h : isKey s = true) : ∀ x ∈ putV g s ps, x < 256 := by
  intro x hx
  rcases List.mem_append.1 hx with hx | hx
  · exact bytes_lt (bodyV_lt h) x hx
  · have := List.eq_of_mem_replicate hx; omega
theorem putV_form (g : Int) (s : ByteArray) (ps : List Int) : ∃ t : List Nat, putV g s ps = [80, 76, 77, 80] ++ (bytes8 g.toNat ++ (keyN s ++ (bytes8 (mapOf ps) ++ t))) := by
  refine ⟨bytes4 (4294967295 ^^^ F 4294967295 (bodyV g s ps)) ++ List.replicate 200 0, ?_⟩
  unfold putV CrcA.bytes
  generalize bytes4 (4294967295 ^^^ F 4294967295 (bodyV g s ps)) = z
  unfold bodyV
  simp only [List.append_assoc]
def genB (b : List Nat) : List Nat := (b.drop 4).take 8
def keyB (b : List Nat) : List Nat := (b.drop 12).take 32
def mapB (b : List Nat) : List Nat := (b.drop 44).take 8
theorem cuts (g : Int) (s : ByteArray) (ps : List Int) : genB (putV g s ps) = bytes8 g.toNat ∧ keyB (putV g s ps) = keyN s ∧ mapB (putV g s ps) = bytes8 (mapOf ps) := by
  obtain ⟨t, h⟩ := putV_form g s ps
  have l1 := bytes8_length g.toNat
  have l2 := keyN_length s
  have l3 := bytes8_length (mapOf ps)
  generalize bytes8 g.toNat = a at h l1
  generalize keyN s = c at h l2
  generalize bytes8 (mapOf ps) = d at h l3
  unfold genB keyB mapB
  rw [h]
  refine ⟨?_, ?_, ?_⟩
  · show (a ++ (c ++ (d ++ t))).take 8 = a
    exact List.take_left' l1
  · rw [← List.append_assoc, List.drop_left' (by simp [l1]), List.take_left' l2]
  · rw [← List.append_assoc, ← List.append_assoc, List.drop_left' (by simp [l1, l2]), List.take_left' l3]
def decG (b : List Nat) : Int := ((le (genB b) % 9223372036854775808 : Nat) : Int)
def decK (b : List Nat) : ByteArray := hexOf (ofN (keyB b))
def decP (b : List Nat) : List Int := packsAt (le (mapB b))
theorem dec_put {g : Int} {s : ByteArray} {ps : List Int} (h : okS g s ps = true) : decG (putV g s ps) = g ∧ decK (putV g s ps) = s ∧ decP (putV g s ps) = ps := by
  obtain ⟨h1, h2, h3, h4⟩ := okS_parts h
  obtain ⟨c1, c2, c3⟩ := cuts g s ps
  unfold decG decK decP
  rw [c1, c2, c3, keyN_of h4, hexOf_keyRow h4, le_bytes8 (by omega), le_bytes8 (Nat.lt_of_lt_of_le (mapOf_lt ps (fun p hp => by have := rises_mem ps _ h1 p hp; omega)) (by decide)), packsAt_mapOf h1]
  exact ⟨by omega, rfl, rfl⟩
def getV (b : List Nat) : Int × ByteArray × List Int × Int :=
  if b.length = 256 ∧ okS (decG b) (decK b) (decP b) = true ∧ putV (decG b) (decK b) (decP b) = b then (decG b, decK b, decP b, 0) else (0, (⟨#[]⟩ : ByteArray), [], 110)
theorem get_put {g : Int} {s : ByteArray} {ps : List Int} (h : okS g s ps = true) : getV (putV g s ps) = (g, s, ps, 0) := by
  obtain ⟨d1, d2, d3⟩ := dec_put h
  unfold getV
  rw [d1, d2, d3, if_pos ⟨putV_length g s ps, h, rfl⟩]
theorem get_or (b : List Nat) : (∃ g s ps, getV b = (g, s, ps, 0) ∧ okS g s ps = true ∧ putV g s ps = b) ∨ getV b = (0, (⟨#[]⟩ : ByteArray), [], 110) := by
  unfold getV
  split
  · rename_i hc
    exact .inl ⟨_, _, _, rfl, hc.2⟩
  · exact .inr rfl
theorem get_great {b : List Nat} (h : 4611686018427387903 < le (genB b)) (hb : le (genB b) < 18446744073709551616) : getV b = (0, (⟨#[]⟩ : ByteArray), [], 110) := by
  rcases get_or b with ⟨g, s, ps, h1, h2, h3⟩ | h1
  · exfalso
    obtain ⟨_, p2, p3, _⟩ := okS_parts h2
    have c := (cuts g s ps).1
    rw [h3] at c
    rw [c, le_bytes8 (by omega)] at h
    omega
  · exact h1
end Go.Proofs.YtfffnogmkbbfkaaDoor.SupA

namespace Go.Proofs.YtfffnogmkbbfkaaDoor.SupB
open Go.RowKit Go.Proofs.YtfffnogmkbbfkaaDoor.Fn Go.Proofs.YtfffnogmkbbfkaaDoorW.PrintWords Go.Proofs.YtfffnogmkbbfkaaDoorW.PrintLast Go.Proofs.YtfffnogmkbbfkaaDoor.U Go.Proofs.YtfffnogmkbbfkaaDoor.CrcA Go.Proofs.YtfffnogmkbbfkaaDoor.Pure Go.Proofs.YtfffnogmkbbfkaaDoor.SupA
set_option linter.unusedVariables false
set_option linter.unusedSimpArgs false
theorem wi (i n : Nat) (h : i < n) (hn : n ≤ 1152921504606846976) : wrap64 ((i : Int) + 1) = ((i + 1 : Nat) : Int) := by rw [w64 (by omega) (by omega)]; omega
theorem w8 (i : Nat) (h : i < 8) : wrap64 (8 * (i : Int)) = ((8 * i : Nat) : Int) := by rw [w64 (by omega) (by omega)]; omega
theorem bytes8_take (x i : Nat) (hi : i < 8) : (bytes8 x).take (i + 1) = (bytes8 x).take i ++ [x / 2 ^ (8 * i) % 256] := by
  have hl : i < (bytes8 x).length := by rw [bytes8_length]; exact hi
  rw [List.take_succ_eq_append_getElem hl]
  have := bytes8_get x i hi
  rw [List.getElem?_eq_getElem hl] at this
  rw [Option.some.inj this]
theorem number_loop (x : Nat) (d : Nat) : ∀ i : Nat, i + d = 8 → Ev (fun k => super_number.l0 k (x : Int) (ofN ((bytes8 x).take i)) (i : Int)) (ofN (bytes8 x)) := by
  induction d with
  | zero =>
    intro i hi
    obtain rfl : i = 8 := by omega
    refine Ev.step (f := fun _ => some (ofN (bytes8 x))) (fun k => ?_) (Ev.now _)
    simp only [super_number.l0]
    rw [if_neg (by omega), List.take_of_length_le (by rw [bytes8_length]; omega)]
  | succ d ih =>
    intro i hi
    refine Ev.step (fun k => ?_) (ih (i + 1) (by omega))
    simp only [super_number.l0]
    rw [if_pos (by omega), w8 i (by omega), if_pos (by omega), if_pos (by rw [ofN_length, List.length_take, bytes8_length]; omega), shr_nat .u64 x (8 * i) _ rfl (by simp [IntKind.bits]; omega), wi i 8 (by omega) (by omega), bytes8_take x i (by omega), ofN_append]
    congr 1
theorem number_ev (x : Nat) : Ev (fun k => super_number.f k (x : Int)) (ofN (bytes8 x)) := by
  refine Ev.congr (fun k => ?_) (number_loop x 8 0 rfl)
  unfold super_number.f
  rfl
theorem read_loop (l : List Nat) (hb : ∀ x ∈ l, x < 256) (h8 : 8 ≤ l.length) (d : Nat) : ∀ i : Nat, i + d = 8 → Ev (fun k => super_read.l0 k (ofN l) ((le (l.take i) : Nat) : Int) (i : Int)) ((le (l.take 8) : Nat) : Int) := by
  induction d with
  | zero =>
    intro i hi
    obtain rfl : i = 8 := by omega
    refine Ev.step (f := fun _ => some ((le (l.take 8) : Nat) : Int)) (fun k => ?_) (Ev.now _)
    simp only [super_read.l0]
    rw [if_neg (by omega)]
  | succ d ih =>
    intro i hi
    have hlt : i < l.length := by omega
    have hx := hb _ (List.getElem_mem hlt)
    have hle : le (l.take i) < 2 ^ (8 * i) := by
      have := le_lt (l.take i) (fun x hx => hb x (List.mem_of_mem_take hx))
      rwa [List.length_take, Nat.min_eq_left (by omega)] at this
    have hp : 2 ^ (8 * i) ≤ 2 ^ 56 := Nat.pow_le_pow_right (by decide) (by omega)
    have e56 : (2 : Nat) ^ 56 = 72057594037927936 := by decide
    have hm : l[i] * 2 ^ (8 * i) ≤ 255 * 2 ^ 56 := Nat.mul_le_mul (by omega) hp
    have er : rd (ofN l) (i : Int) = ((l[i] : Nat) : Int) := by
      rw [rd_ofN, Int.toNat_natCast, List.getD_eq_getElem?_getD, List.getElem?_eq_getElem hlt]; rfl
    have hs : shl .u64 (IntKind.u64.wrap ((l[i] : Nat) : Int)) ((8 * i : Nat) : Int) = ((l[i] * 2 ^ (8 * i) : Nat) : Int) := by
      rw [show IntKind.u64.wrap ((l[i] : Nat) : Int) = ((l[i] : Nat) : Int) from by rw [IntKind.wrap_u64]; omega]
      unfold shl
      have em : min (((8 * i : Nat) : Int).toNat) (IntKind.u64.bits) = 8 * i := by
        rw [Int.toNat_natCast]; show min (8 * i) 64 = 8 * i; omega
      rw [em]
      have ep : ((l[i] : Nat) : Int) * 2 ^ (8 * i) = ((l[i] * 2 ^ (8 * i) : Nat) : Int) := by simp
      rw [ep, IntKind.wrap_u64]
      omega
    have hor : Go.bits .or .u64 ((le (l.take i) : Nat) : Int) ((l[i] * 2 ^ (8 * i) : Nat) : Int) = ((le (l.take (i + 1)) : Nat) : Int) := by
      rw [u64_or_nat _ _ (by omega) (by omega), le_take_succ l i hlt hb]
      congr 1
      rw [Nat.or_comm, Nat.mul_comm, ← Nat.two_pow_add_eq_or_of_lt hle, Nat.add_comm]
    refine Ev.step (fun k => ?_) (ih (i + 1) (by omega))
    simp only [super_read.l0]
    rw [if_pos (by omega), if_pos (by omega), if_pos (by rw [ofN_length]; omega), w8 i (by omega), if_pos (by omega), er, hs, hor, wi i 8 (by omega) (by omega)]
theorem read_ev (l : List Nat) (hb : ∀ x ∈ l, x < 256) (h8 : 8 ≤ l.length) : Ev (fun k => super_read.f k (ofN l)) ((le (l.take 8) : Nat) : Int) := by
  refine Ev.congr (fun k => ?_) (read_loop l hb h8 8 0 rfl)
  unfold super_read.f
  rfl
def tailB (g : Int) (s : ByteArray) : Bool := decide (1 ≤ g) && (decide (g ≤ 4611686018427387903) && isKey s)
theorem right_loop (g : Int) (s : ByteArray) (ps : List Int) (hl : ps.length < 1152921504606846976) (d : Nat) : ∀ (i : Nat) (m : Int), i + d = ps.length → Ev (fun k => super_right.l0 k m ps (ps.length : Int) (i : Int) g s ps) (rises m (ps.drop i) && tailB g s) := by
  induction d with
  | zero =>
    intro i m hi
    obtain rfl : i = ps.length := by omega
    rw [List.drop_length]
    refine Ev.step (f := fun _ => some (rises m [] && tailB g s)) (fun k => ?_) (Ev.now _)
    simp only [super_right.l0]
    rw [if_neg (by omega)]
    unfold tailB rises
    by_cases h1 : 1 ≤ g
    · rw [if_pos h1, decide_eq_true h1]
      by_cases h2 : g ≤ 4611686018427387903
      · rw [if_pos h2, decide_eq_true h2, keyCheck_all]; rfl
      · rw [if_neg h2, decide_eq_false h2]; rfl
    · rw [if_neg h1, decide_eq_false h1]; rfl
  | succ d ih =>
    intro i m hi
    have hlt : i < ps.length := by omega
    have er : rd ps (i : Int) = ps[i] := by unfold rd; rw [Int.toNat_natCast, List.getD_eq_getElem?_getD, List.getElem?_eq_getElem hlt]; rfl
    rw [List.drop_eq_getElem_cons hlt]
    by_cases h1 : ps[i] ≤ m
    · refine Ev.step (f := fun _ => some false) (fun k => ?_) ?_
      · simp only [super_right.l0]
        rw [if_pos (by omega), if_pos (by omega), if_pos (by omega), er, if_pos h1]
      · have : rises m (ps[i] :: ps.drop (i + 1)) = false := by simp only [rises]; rw [decide_eq_false (by omega)]; rfl
        rw [this]; exact Ev.now _
    · by_cases h2 : 62 ≤ ps[i]
      · refine Ev.step (f := fun _ => some false) (fun k => ?_) ?_
        · simp only [super_right.l0]
          rw [if_pos (by omega), if_pos (by omega), if_pos (by omega), er, if_neg h1, if_pos h2]
        · have : rises m (ps[i] :: ps.drop (i + 1)) = false := by simp only [rises]; rw [decide_eq_false (show ¬ ps[i] < 62 by omega), Bool.and_false]; rfl
          rw [this]; exact Ev.now _
      · refine Ev.step (fun k => ?_) (?_ : Ev (fun k => super_right.l0 k ps[i] ps (ps.length : Int) ((i + 1 : Nat) : Int) g s ps) _)
        · simp only [super_right.l0]
          rw [if_pos (by omega), if_pos (by omega), if_pos (by omega), er, if_neg h1, if_neg h2, wi i ps.length hlt (by omega)]
        · have : rises m (ps[i] :: ps.drop (i + 1)) = rises ps[i] (ps.drop (i + 1)) := by simp only [rises]; rw [decide_eq_true (show m < ps[i] by omega), decide_eq_true (show ps[i] < 62 by omega)]; rfl
          rw [this]
          exact ih (i + 1) ps[i] (by omega)
theorem right_ev (g : Int) (s : ByteArray) (ps : List Int) (hl : ps.length < 1152921504606846976) : Ev (fun k => super_right.f k g s ps) (okS g s ps) := by
  refine Ev.congr (fun k => ?_) (right_loop g s ps hl ps.length 0 (-1) (by omega))
  unfold super_right.f
  rfl
theorem flat_take (ls : List (List Int)) (i : Nat) (hi : i < ls.length) : (ls.take (i + 1)).flatten = (ls.take i).flatten ++ ls[i] := by
  rw [List.take_succ_eq_append_getElem hi, List.flatten_append]
  simp
theorem flat_take_le (ls : List (List Int)) (i : Nat) : (ls.take i).flatten.length ≤ ls.flatten.length := by
  conv => rhs; rw [← List.take_append_drop i ls]
  rw [List.flatten_append, List.length_append]
  omega
theorem rd1 (ls : List (List Int)) (i : Nat) (hi : i < ls.length) : rd_L1 ls (i : Int) = ls[i] := by
  unfold rd_L1; rw [Int.toNat_natCast, List.getD_eq_getElem?_getD, List.getElem?_eq_getElem hi]; rfl
theorem concat_l1 (ls : List (List Int)) (ht : ls.flatten.length < 1099511627776) (hn : ls.length < 1099511627776) (d : Nat) : ∀ i : Nat, i + d = ls.length → Ev (fun k => slices_Concat_byte_byte.l1 k (ls.take i).flatten ls (ls.length : Int) (i : Int)) ls.flatten := by
  induction d with
  | zero =>
    intro i hi
    obtain rfl : i = ls.length := by omega
    refine Ev.step (f := fun _ => some ls.flatten) (fun k => ?_) (Ev.now _)
    simp only [slices_Concat_byte_byte.l1]
    rw [if_neg (by omega), List.take_length]
  | succ d ih =>
    intro i hi
    have hlt : i < ls.length := by omega
    have h1 := flat_take_le ls (i + 1)
    rw [flat_take ls i hlt, List.length_append] at h1
    refine Ev.step (fun k => ?_) (ih (i + 1) (by omega))
    simp only [slices_Concat_byte_byte.l1]
    rw [if_pos (by omega), if_pos (by omega), if_pos (by omega), rd1 ls i hlt, if_pos (by omega), wi i ls.length hlt (by omega), flat_take ls i hlt]
theorem concat_l0 (ls : List (List Int)) (ht : ls.flatten.length < 1099511627776) (hn : ls.length < 1099511627776) (d : Nat) : ∀ i : Nat, i + d = ls.length → Ev (fun k => slices_Concat_byte_byte.l0 k ls (((ls.take i).flatten.length : Nat) : Int) ls (ls.length : Int) (i : Int)) ls.flatten := by
  induction d with
  | zero =>
    intro i hi
    obtain rfl : i = ls.length := by omega
    refine Ev.step (fun k => ?_) (concat_l1 ls ht hn ls.length 0 (by omega))
    simp only [slices_Concat_byte_byte.l0]
    rw [if_neg (by omega), List.take_length]
    unfold growNil
    rw [if_pos (by omega), if_pos (by omega), Option.bind_some]
    rfl
  | succ d ih =>
    intro i hi
    have hlt : i < ls.length := by omega
    have h1 := flat_take_le ls (i + 1)
    have h2 := flat_take ls i hlt
    have h3 : (ls.take (i + 1)).flatten.length = (ls.take i).flatten.length + ls[i].length := by rw [h2, List.length_append]
    have e1 : wrap64 ((((ls.take i).flatten.length : Nat) : Int) + (ls[i].length : Int)) = (((ls.take (i + 1)).flatten.length : Nat) : Int) := by rw [w64 (by omega) (by omega), h3]; omega
    refine Ev.step (fun k => ?_) (ih (i + 1) (by omega))
    simp only [slices_Concat_byte_byte.l0]
    rw [if_pos (by omega), if_pos (by omega), if_pos (by omega), rd1 ls i hlt, e1, if_neg (by omega), wi i ls.length hlt (by omega)]
theorem concat_ev (ls : List (List Int)) (ht : ls.flatten.length < 1099511627776) (hn : ls.length < 1099511627776) : Ev (fun k => slices_Concat_byte_byte.f k ls) ls.flatten := by
  refine Ev.congr (fun k => ?_) (concat_l0 ls ht hn ls.length 0 (by omega))
  unfold slices_Concat_byte_byte.f
  rfl
def putR (g : Int) (s : ByteArray) (ps : List Int) : List Int × Int := if okS g s ps = true then (ofN (putV g s ps), 0) else ([], 110)
theorem put_end (g : Int) (s : ByteArray) (ps : List Int) (h : okS g s ps = true) : Ev (fun k => (super_number.f k (IntKind.u64.wrap g)).bind fun t149 => ((super_number.f k ((mapOf ps : Nat) : Int)).bind fun t152 => ((slices_Concat_byte_byte.f k [(([80, 76, 77, 80] : List Int)), t149, keyRow s, t152]).bind fun t155 => ((crc_Bytes.f k t155).bind fun t158 => (if 0 ≤ (wrap64 (256 - (t158.length : Int))) then (if t158.length + (wrap64 (256 - (t158.length : Int)) : Int).toNat < 140737488355328 then (some ((t158 ++ List.replicate (wrap64 (256 - (t158.length : Int)) : Int).toNat 0), (0 : Int))) else (none)) else (none)))))) (ofN (putV g s ps), (0 : Int)) := by
  obtain ⟨h1, h2, h3, h4⟩ := okS_parts h
  obtain ⟨gn, rfl⟩ := Int.eq_ofNat_of_zero_le (show 0 ≤ g by omega)
  have hw : IntKind.u64.wrap (gn : Int) = (gn : Int) := by rw [IntKind.wrap_u64]; omega
  have e1 := number_ev gn
  have e2 := number_ev (mapOf ps)
  have hflat : ([([80, 76, 77, 80] : List Int), ofN (bytes8 gn), keyRow s, ofN (bytes8 (mapOf ps))] : List (List Int)).flatten = ofN (bodyV (gn : Int) s ps) := by
    unfold bodyV
    rw [ofN_append, ofN_append, ofN_append, keyN_of h4]
    simp [ofN]
  have e3 := concat_ev [([80, 76, 77, 80] : List Int), ofN (bytes8 gn), keyRow s, ofN (bytes8 (mapOf ps))] (by rw [hflat, ofN_length, bodyV_length]; decide) (by simp)
  rw [hflat] at e3
  have e4 := CrcB.bytes_ev (bodyV (gn : Int) s ps) (bodyV_lt h4) (by rw [bodyV_length]; decide)
  have hlen : (ofN (CrcA.bytes (bodyV (gn : Int) s ps))).length = 56 := by rw [ofN_length, bytes_length, bodyV_length]
  rw [hw]
  refine Ev.bind e1 ?_
  refine Ev.bind e2 ?_
  refine Ev.bind e3 ?_
  refine Ev.bind e4 ?_
  refine Ev.congr (fun k => ?_) (Ev.now _)
  rw [hlen, show wrap64 (256 - ((56 : Nat) : Int)) = 200 from w64 (by omega) (by omega), if_pos (by omega), if_pos (by omega)]
  unfold putV
  have hz : ofN (List.replicate 200 0) = List.replicate 200 (0 : Int) := by
    unfold ofN
    rw [List.map_replicate]
    exact congrArg (List.replicate 200) rfl
  rw [ofN_append, show (200 : Int).toNat = 200 from rfl, hz]
theorem mapOf_snoc (M : Nat) (p : Int) (ps : List Int) : M ||| mapOf (p :: ps) = (M ||| 2 ^ p.toNat) ||| mapOf ps := by
  rw [mapOf, Nat.or_assoc]
theorem put_loop (g : Int) (s : ByteArray) (ps : List Int) (h : okS g s ps = true) (hl : ps.length < 1152921504606846976) (d : Nat) : ∀ (i M : Nat), i + d = ps.length → M < 2 ^ 62 → M ||| mapOf (ps.drop i) = mapOf ps →
    Ev (fun k => super_Put.l0 k (keyRow s) (M : Int) ps (ps.length : Int) (i : Int) g s ps) (ofN (putV g s ps), (0 : Int)) := by
  have hr := rises_mem ps _ (okS_parts h).1
  induction d with
  | zero =>
    intro i M hi hM hm
    obtain rfl : i = ps.length := by omega
    rw [List.drop_length, mapOf, Nat.or_zero] at hm
    subst hm
    refine Ev.step (fun k => ?_) (put_end g s ps h)
    simp only [super_Put.l0]
    rw [if_neg (by omega)]
  | succ d ih =>
    intro i M hi hM hm
    have hlt : i < ps.length := by omega
    have hp := hr _ (List.getElem_mem hlt)
    have er : rd ps (i : Int) = ps[i] := by unfold rd; rw [Int.toNat_natCast, List.getD_eq_getElem?_getD, List.getElem?_eq_getElem hlt]; rfl
    rw [List.drop_eq_getElem_cons hlt, mapOf_snoc] at hm
    have h2 : 2 ^ ps[i].toNat < 2 ^ 62 := Nat.pow_lt_pow_right (by decide) (by omega)
    have e62 : (2 : Nat) ^ 62 = 4611686018427387904 := by decide
    have hs : shl .u64 1 ps[i] = ((2 ^ ps[i].toNat : Nat) : Int) := by
      unfold shl
      have em : min ps[i].toNat (IntKind.u64.bits) = ps[i].toNat := by show min ps[i].toNat 64 = _; omega
      rw [em, Int.one_mul, show ((2 : Int) ^ ps[i].toNat) = ((2 ^ ps[i].toNat : Nat) : Int) from by simp, IntKind.wrap_u64]
      rw [e62] at h2
      generalize (2 : Nat) ^ ps[i].toNat = q at h2 ⊢
      omega
    have hor : Go.bits .or .u64 (M : Int) ((2 ^ ps[i].toNat : Nat) : Int) = ((M ||| 2 ^ ps[i].toNat : Nat) : Int) := u64_or_nat _ _ (by omega) (by omega)
    refine Ev.step (fun k => ?_) (ih (i + 1) (M ||| 2 ^ ps[i].toNat) (by omega) (Nat.or_lt_two_pow hM h2) hm)
    simp only [super_Put.l0]
    rw [if_pos (by omega), if_pos (by omega), if_pos (by omega), er, if_pos (by omega), hs, hor, wi i ps.length hlt (by omega)]
theorem put_ev (g : Int) (s : ByteArray) (ps : List Int) (hl : ps.length < 1152921504606846976) : Ev (fun k => super_Put.f k g s ps) (putR g s ps) := by
  unfold putR
  have hr := right_ev g s ps hl
  cases h : okS g s ps with
  | true =>
    rw [h] at hr
    rw [if_pos rfl]
    refine Ev.bind hr ?_
    refine Ev.congr (fun k => ?_) (put_loop g s ps h hl ps.length 0 0 (by omega) (by decide) (by rw [List.drop_zero, Nat.zero_or]))
    rw [if_pos rfl, keyBytes_all, if_pos (okS_parts h).2.2.2]
    rfl
  | false =>
    rw [h] at hr
    refine Ev.bind hr ?_
    exact Ev.now _
end Go.Proofs.YtfffnogmkbbfkaaDoor.SupB

namespace Go.Proofs.YtfffnogmkbbfkaaDoor.SupB
open Go.RowKit Go.Proofs.YtfffnogmkbbfkaaDoor.Fn Go.Proofs.YtfffnogmkbbfkaaDoorW.PrintWords Go.Proofs.YtfffnogmkbbfkaaDoorW.PrintLast Go.Proofs.YtfffnogmkbbfkaaDoor.U Go.Proofs.YtfffnogmkbbfkaaDoor.CrcA Go.Proofs.YtfffnogmkbbfkaaDoor.Pure Go.Proofs.YtfffnogmkbbfkaaDoor.SupA
set_option linter.unusedVariables false
set_option linter.unusedSimpArgs false
theorem Ev.succ {α : Type} {g : Nat → Option α} {r : α} (h : Ev (fun k => g (k + 1)) r) : Ev g r := Ev.step (fun _ => rfl) h
def packsTo (M i : Nat) : List Int := ((List.range' 0 i).filter fun p => M.testBit p).map Int.ofNat
theorem packsTo_succ (M i : Nat) : packsTo M (i + 1) = if M.testBit i = true then packsTo M i ++ [(i : Int)] else packsTo M i := by
  unfold packsTo
  rw [List.range'_1_concat, List.filter_append, List.map_append, Nat.zero_add]
  cases h : M.testBit i with
  | true => rw [if_pos rfl]; simp [List.filter, h]
  | false => rw [if_neg (by decide)]; simp [List.filter, h]
theorem packsTo_len (M i : Nat) : (packsTo M i).length ≤ i := by
  unfold packsTo
  rw [List.length_map]
  exact Nat.le_trans (List.length_filter_le _ _) (by simp)
theorem bit_test (M i : Nat) (hM : M < 18446744073709551616) (hi : i < 62) : (Go.bits .and .u64 (shr .u64 (M : Int) (i : Int)) 1 = 1) ↔ M.testBit i = true := by
  rw [shr_nat .u64 M i _ rfl (by simp [IntKind.bits]; omega)]
  have hd : M / 2 ^ i ≤ M := Nat.div_le_self _ _
  rw [show (1 : Int) = ((1 : Nat) : Int) from rfl, u64_and_nat _ 1 (by omega) (by decide), Nat.and_one_is_mod, Nat.testBit_eq_decide_div_mod_eq, decide_eq_true_eq]
  omega
theorem get_loop (b : List Nat) (G : Int) (K : ByteArray) (M : Nat) (hM : M < 18446744073709551616) (r : Int × ByteArray × List Int × Int)
    (H : Ev (fun k => (super_Put.f k G K (packsAt M)).bind fun bt188 => (if bt188.2 = 0 then (if bt188.1 = ofN b then (some (G, K, packsAt M, (0 : Int))) else (some (0, (⟨#[]⟩ : ByteArray), ([] : List Int), 110))) else (some (0, (⟨#[]⟩ : ByteArray), ([] : List Int), 110)))) r) (d : Nat) :
    ∀ i : Nat, i + d = 62 → Ev (fun k => super_Get.l0 k (ofN b) (M : Int) (i : Int) G K (packsTo M i)) r := by
  induction d with
  | zero =>
    intro i hi
    obtain rfl : i = 62 := by omega
    refine Ev.step (fun k => ?_) H
    simp only [super_Get.l0]
    rw [if_neg (by omega)]
    rfl
  | succ d ih =>
    intro i hi
    have hs := ih (i + 1) (by omega)
    have hl := packsTo_len M i
    rw [packsTo_succ] at hs
    refine Ev.step (fun k => ?_) hs
    simp only [super_Get.l0]
    rw [if_pos (by omega), if_pos (by omega), wi i 62 (by omega) (by omega)]
    by_cases hb : M.testBit i = true
    · rw [if_pos ((bit_test M i hM (by omega)).2 hb), if_pos (by omega), if_pos hb]
    · rw [if_neg (fun h => hb ((bit_test M i hM (by omega)).1 h)), if_neg hb]
theorem le8_lt (l : List Nat) (hb : ∀ x ∈ l, x < 256) : le (l.take 8) < 18446744073709551616 := by
  have := le_lt (l.take 8) (fun x hx => hb x (List.mem_of_mem_take hx))
  refine Nat.lt_of_lt_of_le this (Nat.le_trans (Nat.pow_le_pow_right (by decide) (show 8 * (l.take 8).length ≤ 64 by rw [List.length_take]; omega)) (by decide))
theorem get_ev (b : List Nat) (hb : ∀ x ∈ b, x < 256) : Ev (fun k => super_Get.f k (ofN b)) (getV b) := by
  by_cases hlen : b.length = 256
  · have hG := le8_lt (b.drop 4) (fun x hx => hb x (List.mem_of_mem_drop hx))
    have hM := le8_lt (b.drop 44) (fun x hx => hb x (List.mem_of_mem_drop hx))
    have e1 := read_ev (b.drop 4) (fun x hx => hb x (List.mem_of_mem_drop hx)) (by rw [List.length_drop]; omega)
    have e3 := read_ev (b.drop 44) (fun x hx => hb x (List.mem_of_mem_drop hx)) (by rw [List.length_drop]; omega)
    have hK : ∀ x ∈ ofN (keyB b), 0 ≤ x ∧ x < 256 := by
      intro x hx
      obtain ⟨n, hn, rfl⟩ := List.mem_map.1 hx
      have := hb n (List.mem_of_mem_drop (List.mem_of_mem_take hn))
      simp only [Int.ofNat_eq_natCast]
      omega
    have hKl : (ofN (keyB b)).length = 32 := by rw [ofN_length, keyB, List.length_take, List.length_drop]; omega
    have e2 := from_ev (ofN (keyB b)) hK (by rw [hKl]; decide)
    have hF : fromOf (ofN (keyB b)) = (hexOf (ofN (keyB b)), 0) := by unfold fromOf; rw [if_pos (by rw [hKl]; rfl)]
    rw [hF] at e2
    have hcut : (((ofN b).take ((((4 + 8) : Int) + 32) : Int).toNat).drop (((4 + 8) : Int) : Int).toNat) = ofN (keyB b) := by
      rw [ofN_take, ofN_drop, keyB, List.drop_take]
      rfl
    have hcut2 : (ofN b).drop ((((4 + 8) : Int) + 32) : Int).toNat = ofN (b.drop 44) := ofN_drop b 44
    have hg : wrap64 (Go.bits .and .u64 ((le ((b.drop 4).take 8) : Nat) : Int) 9223372036854775807) = decG b := by
      unfold decG genB
      rw [show (9223372036854775807 : Int) = ((9223372036854775807 : Nat) : Int) from rfl, u64_and_nat _ _ hG (by decide), show (9223372036854775807 : Nat) = 2 ^ 63 - 1 from by decide, Nat.and_two_pow_sub_one_eq_mod, show (2 : Nat) ^ 63 = 9223372036854775808 from by decide, w64 (by omega) (by omega)]
    have hp := put_ev (decG b) (decK b) (decP b) (Nat.lt_of_le_of_lt (packsTo_len (le (mapB b)) 62) (by decide))
    have hlast : Ev (fun k => (super_Put.f k (decG b) (decK b) (packsAt (le ((b.drop 44).take 8)))).bind fun bt188 => (if bt188.2 = 0 then (if bt188.1 = ofN b then (some (decG b, decK b, packsAt (le ((b.drop 44).take 8)), (0 : Int))) else (some (0, (⟨#[]⟩ : ByteArray), ([] : List Int), 110))) else (some (0, (⟨#[]⟩ : ByteArray), ([] : List Int), 110)))) (getV b) := by
      refine Ev.bind hp ?_
      refine Ev.congr (fun k => ?_) (Ev.now _)
      unfold putR getV
      by_cases ho : okS (decG b) (decK b) (decP b) = true
      · rw [if_pos ho, if_pos rfl]
        by_cases hq : putV (decG b) (decK b) (decP b) = b
        · rw [if_pos (by rw [hq]), if_pos ⟨hlen, ho, hq⟩]; rfl
        · rw [if_neg (fun h => hq (ofN_inj h)), if_neg (fun h => hq h.2.2)]
      · rw [if_neg ho, if_neg (by decide), if_neg (fun h => ho h.2.1)]
    have h0 := get_loop b (decG b) (decK b) _ hM _ hlast 62 0 (by omega)
    unfold super_Get.f
    have hl4 : (4 : Int) ≤ ((ofN b).length : Int) := by rw [ofN_length, hlen]; decide
    have hl44 : ((((4 + 8) : Int) + 32) : Int) ≤ ((ofN b).length : Int) := by rw [ofN_length, hlen]; decide
    have hl256 : ((ofN b).length : Int) = 256 := by rw [ofN_length, hlen]; rfl
    simp only [if_pos hl256, if_pos hl4, if_pos hl44, hcut, hcut2, if_pos (show (0 : Int) ≤ 4 + 8 by decide), if_pos (show ((4 : Int) + 8) ≤ (4 + 8) + 32 by decide), if_pos (show (0 : Int) ≤ (4 + 8) + 32 by decide)]
    rw [show (ofN b).drop 4 = ofN (b.drop 4) from ofN_drop b 4]
    refine Ev.bind e1 ?_
    refine Ev.bind e2 ?_
    refine Ev.bind e3 ?_
    rw [hg]
    exact h0
  · refine Ev.congr (fun k => ?_) (Ev.now (getV b))
    unfold super_Get.f getV
    rw [if_neg (by rw [ofN_length]; omega), if_neg (fun h => hlen h.1)]
def chooseV (x y : Int × ByteArray × List Int × Int) : Int × ByteArray × List Int × Int × Int :=
  if x.2.2.2 = 0 then (if y.2.2.2 = 0 then (if y.1 > x.1 then (y.1, y.2.1, y.2.2.1, 1, 0) else (x.1, x.2.1, x.2.2.1, 0, 0)) else (x.1, x.2.1, x.2.2.1, 0, 0)) else (if y.2.2.2 = 0 then (y.1, y.2.1, y.2.2.1, 1, 0) else (0, (⟨#[]⟩ : ByteArray), [], -1, 110))
theorem choose_ev (a b : List Nat) (ha : ∀ x ∈ a, x < 256) (hb : ∀ x ∈ b, x < 256) : Ev (fun k => super_Choose.f k (ofN a) (ofN b)) (chooseV (getV a) (getV b)) := by
  refine Ev.bind (get_ev a ha) (Ev.bind (get_ev b hb) ?_)
  generalize getV a = x
  generalize getV b = y
  unfold chooseV
  by_cases h1 : x.2.2.2 = 0
  · simp only [if_pos h1]
    refine Ev.step (fun k => ?_) (Ev.now _)
    simp only [super_Choose.j0]
    rw [if_neg (by decide), if_pos h1]
    by_cases h2 : y.2.2.2 = 0
    · rw [if_pos h2, if_pos h2]
      by_cases h3 : y.1 > x.1
      · rw [if_pos h3, if_pos h3]
      · rw [if_neg h3, if_neg h3]
    · rw [if_neg h2, if_neg h2]
  · simp only [if_neg h1]
    refine Ev.step (fun k => ?_) (Ev.now _)
    simp only [super_Choose.j0]
    by_cases h2 : y.2.2.2 = 0
    · rw [if_neg (by rw [h2]; decide), if_neg h1, if_pos h2]
    · rw [if_pos (by simpa using h2), if_neg h2]
theorem sameS_ev (g : Int) (s : ByteArray) (ps : List Int) (hl : ps.length < 1152921504606846976) : Ev (fun k => q11_Same.f k g s ps g s ps) true := by
  have hloop : ∀ d i : Nat, i + d = ps.length → Ev (fun k => q11_Same.l0 k (i : Int) g s ps g s ps) true := by
    intro d
    induction d with
    | zero =>
      intro i hi
      obtain rfl : i = ps.length := by omega
      refine Ev.step (f := fun _ => some true) (fun k => ?_) (Ev.now _)
      simp only [q11_Same.l0]
      rw [if_neg (by omega), if_pos trivial, beq_self_eq_true]
    | succ d ih =>
      intro i hi
      refine Ev.step (fun k => ?_) (ih (i + 1) (by omega))
      simp only [q11_Same.l0]
      rw [if_pos (by omega), if_pos (by omega), if_pos (by omega), if_pos trivial, wi i ps.length (by omega) (by omega)]
  refine Ev.congr (fun k => ?_) (hloop ps.length 0 (by omega))
  unfold q11_Same.f
  rw [if_pos rfl]
  rfl
theorem next_ev (g : Int) (s : ByteArray) (ps : List Int) (t : ByteArray) (l : List Int) (hl : ps.length < 1152921504606846976) (h2 : l.length ≤ 1099511627776) :
    Ev (fun k => super_Next.f k g s ps t l) (if okS g s ps = true ∧ g ≠ 4611686018427387903 ∧ okS g t (nextPacks l) = true then (g + 1, t, nextPacks l, 0) else (0, (⟨#[]⟩ : ByteArray), [], 110)) := by
  have hn : (nextPacks l).length ≤ l.length := by
    unfold nextPacks
    refine Nat.le_trans (Lib.compact_length_le _) ?_
    rw [List.length_mergeSort]
    exact Nat.le_refl _
  have e1 := right_ev g s ps hl
  have e2 := right_ev g t (nextPacks l) (by omega)
  unfold super_Next.f
  simp only [if_pos (show l.length * 8 ≤ 140737488351232 by omega)]
  refine Ev.bind e1 ?_
  cases h : okS g s ps with
  | false => simp only [Bool.false_eq_true, if_false, false_and]; exact Ev.now _
  | true =>
    simp only [if_true, true_and]
    by_cases hg : g = 4611686018427387903
    · simp only [if_pos hg, show (g ≠ 4611686018427387903) = False from by simp [hg], false_and, if_false]
      exact Ev.now _
    · simp only [if_neg hg, show (g ≠ 4611686018427387903) = True from by simp [hg], true_and]
      refine Ev.bind e2 ?_
      have hr := okS_parts h
      cases h3 : okS g t (nextPacks l) with
      | false => simp only [Bool.false_eq_true, if_false]; exact Ev.now _
      | true => simp only [if_true]; rw [w64 (by omega) (by omega)]; exact Ev.now _
def sum0V : List Int := [110, 52, 11, 156, 255, 179, 122, 152, 156, 165, 68, 230, 187, 120, 10, 44, 120, 144, 29, 63, 179, 55, 56, 118, 133, 17, 163, 6, 23, 175, 160, 29]
def sum1V : List Int := [75, 245, 18, 47, 52, 69, 84, 197, 59, 222, 46, 187, 140, 210, 183, 227, 209, 96, 10, 214, 49, 195, 133, 165, 215, 204, 226, 60, 119, 133, 69, 154]
set_option maxRecDepth 100000 in
theorem of0 : Ev (fun k => q07_Of.f k 0 []) (hexOf sum0V) := Ev.of (q07_Of.mono _ _) (k := 400) (by decide +kernel)
set_option maxRecDepth 100000 in
theorem of1 : Ev (fun k => q07_Of.f k 1 []) (hexOf sum1V) := Ev.of (q07_Of.mono _ _) (k := 400) (by decide +kernel)
theorem key0 : isKey (hexOf sum0V) = true := isKey_hex _ (by decide) (by decide)
theorem key1 : isKey (hexOf sum1V) = true := isKey_hex _ (by decide) (by decide)
theorem getV_zero : getV (List.replicate 256 0) = (0, (⟨#[]⟩ : ByteArray), [], 110) := by
  rcases get_or (List.replicate 256 0) with ⟨g, s, ps, _, _, h⟩ | h
  · exfalso
    obtain ⟨t, ht⟩ := putV_form g s ps
    rw [ht] at h
    have h0 := congrArg (fun l : List Nat => l[0]?) h
    rw [List.cons_append, List.getElem?_cons_zero, List.getElem?_replicate, if_pos (by decide)] at h0
    exact absurd (Option.some.inj h0) (by decide)
  · exact h
theorem getV_nil : getV [] = (0, (⟨#[]⟩ : ByteArray), [], 110) := by
  unfold getV
  rw [if_neg (fun h => by simp at h)]
theorem heads_ev : Ev (fun k => l11_heads.f k) true := by
  have k0 := key0
  have k1 := key1
  generalize hK0 : hexOf sum0V = K0 at k0
  generalize hK1 : hexOf sum1V = K1 at k1
  have o0 := of0
  have o1 := of1
  rw [hK0] at o0
  rw [hK1] at o1
  have hN : nextPacks [4, 1, 4] = [1, 4] := by simp [nextPacks, List.mergeSort, List.MergeSort.Internal.splitInTwo, List.merge, Lib.compact]; decide
  have ok0 : okS 3 K0 [0, 9] = true := by unfold okS; rw [k0]; decide
  have ok1 : okS 3 K1 [1, 4] = true := by unfold okS; rw [k1]; decide
  have ok2 : okS 4 K1 [1, 4] = true := by unfold okS; rw [k1]; decide
  have n0 := next_ev 3 K0 [0, 9] K1 [4, 1, 4] (by decide) (by decide)
  rw [hN, if_pos ⟨ok0, by decide, ok1⟩] at n0
  have p0 := put_ev 3 K0 [0, 9] (by decide)
  have p1 := put_ev 4 K1 [1, 4] (by decide)
  unfold putR at p0 p1
  rw [if_pos ok0] at p0
  rw [if_pos ok2] at p1
  have lt0 := putV_lt (g := 3) (ps := [0, 9]) k0
  have lt1 := putV_lt (g := 4) (ps := [1, 4]) k1
  have c0 := choose_ev _ _ lt0 lt1
  rw [get_put ok0, get_put ok2] at c0
  have c1 := choose_ev (List.replicate 256 0) [] (fun x hx => by have := List.eq_of_mem_replicate hx; omega) (fun x hx => by simp at hx)
  rw [getV_zero, getV_nil] at c1
  have g0 := get_ev _ lt0
  rw [get_put ok0] at g0
  have sm := sameS_ev 3 K0 [0, 9] (by decide)
  have hl : ((ofN (putV 3 K0 [0, 9])).length : Int) = 256 := by rw [ofN_length, putV_length]; rfl
  have hz : (List.replicate 256 (0 : Int)) = ofN (List.replicate 256 0) := by unfold ofN; rw [List.map_replicate]; rfl
  have hc1 : Ev (fun k => super_Choose.f k (List.replicate 256 0) []) (0, (⟨#[]⟩ : ByteArray), ([] : List Int), (-1 : Int), (110 : Int)) := by rw [hz]; exact c1
  unfold l11_heads.f
  refine Ev.bind o0 ?_
  simp only [Option.bind_some]
  refine Ev.bind o1 ?_
  refine Ev.bind n0 ?_
  refine Ev.bind p0 ?_
  refine Ev.bind p1 ?_
  refine Ev.bind c0 ?_
  simp only [if_pos (show (256 : Nat) ≤ 281474976710656 by decide)]
  refine Ev.bind hc1 ?_
  refine Ev.bind g0 ?_
  refine Ev.congr (fun k => ?_) (Ev.bind (f := fun _ t => some t) sm (Ev.now _))
  rw [if_pos rfl, if_pos rfl, if_pos rfl, if_pos hl]
  rfl
theorem headsT_ev : Ev (fun k => (l11_heads.f k).bind fun t => some t) true := Ev.bind (f := fun _ t => some t) heads_ev (Ev.now _)
end Go.Proofs.YtfffnogmkbbfkaaDoor.SupB

namespace Go.Proofs.YtfffnogmkbbfkaaDoor.SupB
open Go.RowKit Go.Proofs.YtfffnogmkbbfkaaDoor.Fn Go.Proofs.YtfffnogmkbbfkaaDoorW.PrintWords Go.Proofs.YtfffnogmkbbfkaaDoorW.PrintLast Go.Proofs.YtfffnogmkbbfkaaDoor.U Go.Proofs.YtfffnogmkbbfkaaDoor.CrcA Go.Proofs.YtfffnogmkbbfkaaDoor.Pure Go.Proofs.YtfffnogmkbbfkaaDoor.SupA
set_option linter.unusedVariables false
set_option linter.unusedSimpArgs false
def prevOf (ps : List Int) (i : Nat) : Int := if i = 0 then -1 else ps.getD (i - 1) 0
theorem refSuper_loop (g : Int) (s : ByteArray) (ps : List Int) (hl : ps.length < 1152921504606846976) (d : Nat) : ∀ i : Nat, i + d = ps.length → -1 ≤ prevOf ps i → Ev (fun k => q11_Super.l0 k (i : Int) g s ps) (rises (prevOf ps i) (ps.drop i) && tailB g s) := by
  induction d with
  | zero =>
    intro i hi _
    obtain rfl : i = ps.length := by omega
    rw [List.drop_length]
    unfold tailB rises
    by_cases h1 : 1 ≤ g
    · rw [decide_eq_true h1]
      by_cases h2 : g ≤ 4611686018427387903
      · rw [decide_eq_true h2]
        refine Ev.step (fun k => ?_) (Ev.bind (f := fun _ t => some t) (ref07_Check_ev s) (Ev.now _))
        simp only [q11_Super.l0]
        rw [if_neg (by omega), if_pos h1, if_pos h2]
      · rw [decide_eq_false h2]
        refine Ev.step (f := fun _ => some false) (fun k => ?_) (Ev.now _)
        simp only [q11_Super.l0]
        rw [if_neg (by omega), if_pos h1, if_neg h2]
    · rw [decide_eq_false h1]
      refine Ev.step (f := fun _ => some false) (fun k => ?_) (Ev.now _)
      simp only [q11_Super.l0]
      rw [if_neg (by omega), if_neg h1]
  | succ d ih =>
    intro i hi hpv
    have hlt : i < ps.length := by omega
    have er : rd ps (i : Int) = ps[i] := by unfold rd; rw [Int.toNat_natCast, List.getD_eq_getElem?_getD, List.getElem?_eq_getElem hlt]; rfl
    rw [List.drop_eq_getElem_cons hlt]
    have hnext : prevOf ps (i + 1) = ps[i] := by
      unfold prevOf
      rw [if_neg (by omega), Nat.add_sub_cancel, List.getD_eq_getElem?_getD, List.getElem?_eq_getElem hlt]; rfl
    by_cases h0 : ps[i] < 0
    · have : rises (prevOf ps i) (ps[i] :: ps.drop (i + 1)) = false := by simp only [rises]; rw [decide_eq_false (by omega)]; rfl
      rw [this]
      refine Ev.step (f := fun _ => some false) (fun k => ?_) (Ev.now _)
      simp only [q11_Super.l0]
      rw [if_pos (by omega), if_pos (by omega), er, if_pos h0]
    by_cases h2 : 62 ≤ ps[i]
    · have : rises (prevOf ps i) (ps[i] :: ps.drop (i + 1)) = false := by simp only [rises]; rw [decide_eq_false (show ¬ ps[i] < 62 by omega), Bool.and_false]; rfl
      rw [this]
      refine Ev.step (f := fun _ => some false) (fun k => ?_) (Ev.now _)
      simp only [q11_Super.l0]
      rw [if_pos (by omega), if_pos (by omega), er, if_neg h0, if_pos h2]
    have hih := ih (i + 1) (by omega) (by rw [hnext]; omega)
    rw [hnext] at hih
    by_cases hi0 : i = 0
    · have hp : prevOf ps i = -1 := by unfold prevOf; rw [if_pos hi0]
      have : rises (prevOf ps i) (ps[i] :: ps.drop (i + 1)) = rises ps[i] (ps.drop (i + 1)) := by simp only [rises]; rw [hp, decide_eq_true (show (-1 : Int) < ps[i] by omega), decide_eq_true (show ps[i] < 62 by omega)]; rfl
      rw [this]
      refine Ev.step (fun k => ?_) hih
      simp only [q11_Super.l0]
      rw [if_pos (by omega), if_pos (by omega), er, if_neg h0, if_neg h2, if_neg (by omega), wi i ps.length hlt (by omega)]
    · have hw : wrap64 ((i : Int) - 1) = ((i - 1 : Nat) : Int) := by rw [w64 (by omega) (by omega)]; omega
      have hp : rd ps ((i - 1 : Nat) : Int) = prevOf ps i := by unfold prevOf rd; rw [if_neg hi0, Int.toNat_natCast]
      by_cases h3 : ps[i] ≤ prevOf ps i
      · have : rises (prevOf ps i) (ps[i] :: ps.drop (i + 1)) = false := by simp only [rises]; rw [decide_eq_false (by omega)]; rfl
        rw [this]
        refine Ev.step (f := fun _ => some false) (fun k => ?_) (Ev.now _)
        simp only [q11_Super.l0]
        rw [if_pos (by omega), if_pos (by omega), er, if_neg h0, if_neg h2, if_pos (by omega), hw, if_pos (by omega), if_pos (by omega), hp, if_pos h3]
      · have : rises (prevOf ps i) (ps[i] :: ps.drop (i + 1)) = rises ps[i] (ps.drop (i + 1)) := by simp only [rises]; rw [decide_eq_true (show prevOf ps i < ps[i] by omega), decide_eq_true (show ps[i] < 62 by omega)]; rfl
        rw [this]
        refine Ev.step (fun k => ?_) hih
        simp only [q11_Super.l0]
        rw [if_pos (by omega), if_pos (by omega), er, if_neg h0, if_neg h2, if_pos (by omega), hw, if_pos (by omega), if_pos (by omega), hp, if_neg h3, wi i ps.length hlt (by omega)]
theorem refSuper_ev (g : Int) (s : ByteArray) (ps : List Int) (hl : ps.length < 1152921504606846976) : Ev (fun k => q11_Super.f k g s ps) (okS g s ps) := by
  refine Ev.congr (fun k => ?_) (refSuper_loop g s ps hl ps.length 0 (by omega) (by simp [prevOf]))
  unfold q11_Super.f
  rfl
theorem bytes8_or {M p : Nat} (hp : p < 62) (hM : M < 2 ^ p) : (bytes8 M).set (p / 8) (((bytes8 M).getD (p / 8) 0 + 2 ^ (p % 8)) % 256) = bytes8 (M ||| 2 ^ p) := by
  have hor : M ||| 2 ^ p = M + 2 ^ p := by
    have := Nat.two_pow_add_eq_or_of_lt hM 1
    rw [Nat.mul_one] at this
    rw [Nat.or_comm, ← this, Nat.add_comm]
  have hpq : 2 ^ p = 2 ^ (8 * (p / 8)) * 2 ^ (p % 8) := by rw [← Nat.pow_add]; congr 1; omega
  rw [hor]
  apply List.ext_getElem?
  intro j
  by_cases hj : j < 8
  · rw [bytes8_get _ j hj, List.getElem?_set, bytes8_length]
    by_cases hq : p / 8 = j
    · rw [if_pos hq, if_pos (show p / 8 < 8 by omega), List.getD_eq_getElem?_getD, bytes8_get _ _ (by omega), ← hq]
      congr 1
      rw [hpq, Nat.add_mul_div_left _ _ (Nat.two_pow_pos _)]
      simp
    · rw [if_neg hq, bytes8_get _ j hj]
      congr 1
      rcases Nat.lt_or_gt_of_ne hq with h | h
      · have h1 : 2 ^ p * 2 ≤ 2 ^ (8 * j) := by rw [← Nat.pow_succ]; exact Nat.pow_le_pow_right (by decide) (by omega)
        rw [Nat.div_eq_of_lt (show M < 2 ^ (8 * j) by omega), Nat.div_eq_of_lt (show M + 2 ^ p < 2 ^ (8 * j) by omega)]
      · have h1 : 2 ^ p = 2 ^ (8 * j) * (256 * 2 ^ (p - 8 * j - 8)) := by
          rw [show (256 : Nat) = 2 ^ 8 from rfl, ← Nat.pow_add, ← Nat.pow_add]; congr 1; omega
        rw [h1, Nat.add_mul_div_left _ _ (Nat.two_pow_pos _), Nat.add_mul_mod_self_left]
  · rw [List.getElem?_eq_none (by rw [List.length_set, bytes8_length]; omega), List.getElem?_eq_none (by rw [bytes8_length]; omega)]
theorem shl8 : ∀ r : Fin 8, shl .u8 1 (r.val : Int) = ((2 ^ r.val : Nat) : Int) := by decide
theorem refPut_l2 (x : List Nat) (d : Nat) : ∀ n : Nat, n + d = 200 → x.length = 56 → Ev (fun k => q11_Put.l2 k (ofN (x ++ List.replicate n 0))) (ofN (x ++ List.replicate 200 0), (0 : Int)) := by
  induction d with
  | zero =>
    intro n hn hx
    obtain rfl : n = 200 := by omega
    refine Ev.step (f := fun _ => some (ofN (x ++ List.replicate 200 0), (0 : Int))) (fun k => ?_) (Ev.now _)
    unfold q11_Put.l2
    rw [if_neg (by rw [ofN_length, List.length_append, List.length_replicate, hx]; decide)]
  | succ d ih =>
    intro n hn hx
    refine Ev.step (fun k => ?_) (ih (n + 1) (by omega) hx)
    conv => lhs; unfold q11_Put.l2
    rw [if_pos (by rw [ofN_length, List.length_append, List.length_replicate, hx]; omega), if_pos (by rw [ofN_length, List.length_append, List.length_replicate, hx]; omega)]
    congr 1
    rw [show ([0] : List Int) = ofN [0] from rfl, ← ofN_append, List.append_assoc, List.replicate_succ']
theorem refPut_l1 (g : Int) (s : ByteArray) (ps : List Int) (h : okS g s ps = true) (hl : ps.length < 1152921504606846976) (x6 : List Nat) (hx6 : x6 = [80, 76, 77, 80] ++ (bytes8 g.toNat ++ keyN s)) (d : Nat) : ∀ (i M : Nat), i + d = ps.length → M < 2 ^ 62 → ((M : Int) < 2 ^ ((prevOf ps i).toNat + 1) ∧ 0 ≤ prevOf ps i ∨ M = 0 ∧ i = 0) → M ||| mapOf (ps.drop i) = mapOf ps →
    Ev (fun k => q11_Put.l1 k (ofN x6) (ofN (bytes8 M)) (i : Int) g s ps) (ofN (putV g s ps), (0 : Int)) := by
  have hok := okS_parts h
  have hr := rises_mem ps _ hok.1
  induction d with
  | zero =>
    intro i M hi hM _ hm
    obtain rfl : i = ps.length := by omega
    rw [List.drop_length, mapOf, Nat.or_zero] at hm
    subst hm
    have e1 := CrcC.rbytes_ev (bodyV g s ps) (bodyV_lt hok.2.2.2) (by rw [bodyV_length]; decide)
    have e2 := refPut_l2 (CrcA.bytes (bodyV g s ps)) 200 0 (by omega) (by rw [bytes_length, bodyV_length])
    rw [List.replicate_zero, List.append_nil] at e2
    refine Ev.step (fun k => ?_) (Ev.bind e1 e2)
    conv => lhs; unfold q11_Put.l1
    rw [if_neg (by omega)]
    have hb : ofN x6 ++ ofN (bytes8 (mapOf ps)) = ofN (bodyV g s ps) := by rw [← ofN_append, hx6]; unfold bodyV; simp only [List.append_assoc]
    rw [if_pos (by rw [← List.length_append, hb, ofN_length, bodyV_length]; decide), hb]
  | succ d ih =>
    intro i M hi hM hpv hm
    have hlt : i < ps.length := by omega
    have hp := hr _ (List.getElem_mem hlt)
    have er : rd ps (i : Int) = ps[i] := by unfold rd; rw [Int.toNat_natCast, List.getD_eq_getElem?_getD, List.getElem?_eq_getElem hlt]; rfl
    obtain ⟨p, hpn⟩ : ∃ p : Nat, ps[i] = (p : Int) := ⟨ps[i].toNat, by omega⟩
    have hnext : prevOf ps (i + 1) = ps[i] := by
      unfold prevOf
      rw [if_neg (by omega), Nat.add_sub_cancel, List.getD_eq_getElem?_getD, List.getElem?_eq_getElem hlt]; rfl
    have hMp : M < 2 ^ p := by
      rcases hpv with ⟨h1, h2⟩ | ⟨h1, _⟩
      · have hlt2 : prevOf ps i < ps[i] := by
          by_cases hi0 : i = 0
          · unfold prevOf at h2; rw [if_pos hi0] at h2; omega
          · have := rises_step ps _ hok.1 i hlt hi0
            unfold prevOf; rw [if_neg hi0]; exact this
        have h3 : 2 ^ ((prevOf ps i).toNat + 1) ≤ 2 ^ p := Nat.pow_le_pow_right (by decide) (by omega)
        have h4 : M < 2 ^ ((prevOf ps i).toNat + 1) := by exact_mod_cast h1
        omega
      · have := Nat.two_pow_pos p; omega
    rw [List.drop_eq_getElem_cons hlt, mapOf_snoc, hpn, Int.toNat_natCast] at hm
    have e8 : wrap64 (Int.tdiv (p : Int) 8) = ((p / 8 : Nat) : Int) := by rw [Int.tdiv_eq_ediv_of_nonneg (by omega), w64 (by omega) (by omega)]; omega
    have em : IntKind.u64.wrap (Int.tmod (p : Int) 8) = ((p % 8 : Nat) : Int) := by rw [Int.tmod_eq_emod_of_nonneg (by omega), IntKind.wrap_u64]; omega
    have hs : shl .u8 1 ((p % 8 : Nat) : Int) = ((2 ^ (p % 8) : Nat) : Int) := shl8 ⟨p % 8, by omega⟩
    have h2 : 2 ^ p < 2 ^ 62 := Nat.pow_lt_pow_right (by decide) (by omega)
    refine Ev.step (fun k => ?_) (ih (i + 1) (M ||| 2 ^ p) (by omega) (Nat.or_lt_two_pow hM h2) (.inl ⟨?_, by rw [hnext]; omega⟩) hm)
    · conv => lhs; unfold q11_Put.l1
      rw [if_pos (by omega), if_pos (by omega), er, hpn, e8, em, if_pos (by omega), if_pos (by rw [ofN_length, bytes8_length]; omega), if_pos (by omega), hs, wi i ps.length hlt (by omega), rd_ofN, Int.toNat_natCast, ← bytes8_or (by omega) hMp, ← ofN_set]
      congr 2
    · rw [hnext, hpn, Int.toNat_natCast]
      have : M ||| 2 ^ p < 2 ^ (p + 1) := Nat.or_lt_two_pow (by rw [Nat.pow_succ]; omega) (by rw [Nat.pow_succ]; have := Nat.two_pow_pos p; omega)
      exact_mod_cast this
theorem refPut_l0 (g : Nat) (s : ByteArray) (ps : List Int) (h : okS (g : Int) s ps = true) (hl : ps.length < 1152921504606846976) (d : Nat) : ∀ i : Nat, i + d = 8 → Ev (fun k => q11_Put.l0 k (keyRow s) (ofN ([80, 76, 77, 80] ++ (bytes8 g).take i)) (i : Int) (g : Int) s ps) (ofN (putV g s ps), (0 : Int)) := by
  induction d with
  | zero =>
    intro i hi
    obtain rfl : i = 8 := by omega
    have hk := keyN_of (okS_parts h).2.2.2
    have h1 := refPut_l1 (g : Int) s ps h hl ([80, 76, 77, 80] ++ (bytes8 g ++ keyN s)) rfl ps.length 0 0 (by omega) (by decide) (.inr ⟨rfl, rfl⟩) (by rw [List.drop_zero, Nat.zero_or])
    have hz : ofN (bytes8 0) = List.replicate 8 0 := by decide
    rw [hz] at h1
    refine Ev.step (fun k => ?_) h1
    conv => lhs; unfold q11_Put.l0
    rw [if_neg (by omega), List.take_of_length_le (by rw [bytes8_length]; omega), ← hk, ← ofN_append, List.append_assoc]
    rw [if_pos (by rw [ofN_length, ofN_length, List.length_append, bytes8_length, keyN_length]; decide), if_pos (by decide)]
    rfl
  | succ d ih =>
    intro i hi
    refine Ev.step (fun k => ?_) (ih (i + 1) (by omega))
    have ew : IntKind.u64.wrap (wrap64 (8 * (i : Int))) = ((8 * i : Nat) : Int) := by rw [w8 i (by omega), IntKind.wrap_u64]; omega
    conv => lhs; unfold q11_Put.l0
    rw [if_pos (by omega), ew, if_pos (by omega), if_pos (by rw [ofN_length, List.length_append, List.length_take, bytes8_length]; simp; omega), shr_nat .i64 g (8 * i) _ rfl (by simp [IntKind.bits]; omega), wi i 8 (by omega) (by omega), bytes8_take g i (by omega), ← List.append_assoc, ofN_append]
    congr 1
    simp [ofN]
theorem refPut_ev (g : Int) (s : ByteArray) (ps : List Int) (hl : ps.length < 1152921504606846976) : Ev (fun k => q11_Put.f k g s ps) (putR g s ps) := by
  unfold putR
  have hr := refSuper_ev g s ps hl
  cases h : okS g s ps with
  | true =>
    rw [h] at hr
    rw [if_pos rfl]
    obtain ⟨_, h2, _, h4⟩ := okS_parts h
    obtain ⟨n, rfl⟩ := Int.eq_ofNat_of_zero_le (show 0 ≤ g by omega)
    have hb := ref07_Bytes_ev s
    rw [if_pos h4] at hb
    refine Ev.bind hr ?_
    simp only [if_true]
    refine Ev.bind hb ?_
    have := refPut_l0 n s ps h hl 8 0 rfl
    rw [List.take_zero, List.append_nil] at this
    exact this
  | false =>
    rw [h] at hr
    refine Ev.bind hr ?_
    simp only [Bool.false_eq_true, if_false]
    exact Ev.now _
end Go.Proofs.YtfffnogmkbbfkaaDoor.SupB

namespace Go.Proofs.YtfffnogmkbbfkaaDoor.SupB
open Go.RowKit Go.Proofs.YtfffnogmkbbfkaaDoor.Fn Go.Proofs.YtfffnogmkbbfkaaDoorW.PrintWords Go.Proofs.YtfffnogmkbbfkaaDoorW.PrintLast Go.Proofs.YtfffnogmkbbfkaaDoor.U Go.Proofs.YtfffnogmkbbfkaaDoor.CrcA Go.Proofs.YtfffnogmkbbfkaaDoor.Pure Go.Proofs.YtfffnogmkbbfkaaDoor.SupA
set_option linter.unusedVariables false
set_option linter.unusedSimpArgs false
theorem refSame_bytes (a b : List Nat) (ha : ∀ x ∈ a, x < 256) (hb : ∀ x ∈ b, x < 256) : q02_Same.f (ofN a) (ofN b) = some (a == b) := by
  unfold q02_Same.f
  rw [str_eq ha hb]
theorem w44 : wrap64 (12 + 32) = 44 := (w64 (x := 12 + 32) (by omega) (by omega)).trans (by decide)
theorem map_byte {b : List Nat} (hb : ∀ x ∈ b, x < 256) (hlen : b.length = 256) (i : Nat) (hi : i < 62) : b.getD (44 + i / 8) 0 / 2 ^ (i % 8) % 2 = le (mapB b) / 2 ^ i % 2 := by
  have hl : (mapB b).length = 8 := by rw [mapB, List.length_take, List.length_drop]; omega
  have hx : ∀ x ∈ mapB b, x < 256 := fun x hx => hb x (List.mem_of_mem_drop (List.mem_of_mem_take hx))
  have e := bytes8_le hl hx
  have g := bytes8_get (le (mapB b)) (i / 8) (by omega)
  rw [e, mapB, List.getElem?_take_of_lt (by omega), List.getElem?_drop] at g
  rw [List.getD_eq_getElem?_getD, g, Option.getD_some]
  change le (mapB b) / 2 ^ (8 * (i / 8)) % 256 / 2 ^ (i % 8) % 2 = _
  have h8 : (256 : Nat) = 2 ^ (i % 8) * 2 ^ (8 - i % 8) := by rw [← Nat.pow_add, show i % 8 + (8 - i % 8) = 8 from by omega]
  rw [h8, Nat.mod_mul_right_div_self, Nat.div_div_eq_div_mul, ← Nat.pow_add, show 8 * (i / 8) + i % 8 = i from by omega]
  obtain ⟨m, hm⟩ : ∃ m, 8 - i % 8 = m + 1 := ⟨7 - i % 8, by omega⟩
  rw [hm, Nat.pow_succ, Nat.mul_comm (2 ^ m) 2, Nat.mod_mul_right_mod]
theorem refGet_l1 (b : List Nat) (hb : ∀ x ∈ b, x < 256) (hlen : b.length = 256) (G : Int) (K : ByteArray) (r : Int × ByteArray × List Int × Int)
    (H : Ev (fun k => (q11_Put.f k G K (packsAt (le (mapB b)))).bind fun bt515 => (if bt515.2 = 0 then ((q02_Same.f bt515.1 (ofN b)).bind fun t519 => (if t519 = true then (some (G, K, packsAt (le (mapB b)), 0)) else (some (0, (⟨#[]⟩ : ByteArray), ([] : List Int), 110)))) else (some (0, (⟨#[]⟩ : ByteArray), ([] : List Int), 110)))) r) (d : Nat) :
    ∀ i : Nat, i + d = 62 → Ev (fun k => q11_Get.l1 k (ofN b) 12 (i : Int) G K (packsTo (le (mapB b)) i)) r := by
  induction d with
  | zero =>
    intro i hi
    obtain rfl : i = 62 := by omega
    refine Ev.step (fun k => ?_) H
    simp only [q11_Get.l1]
    rw [if_neg (by omega)]
    rfl
  | succ d ih =>
    intro i hi
    have hs := ih (i + 1) (by omega)
    have hl := packsTo_len (le (mapB b)) i
    have hq := map_byte hb hlen i (by omega)
    rw [packsTo_succ] at hs
    have e1 : Int.tdiv (i : Int) 8 = ((i / 8 : Nat) : Int) := by rw [Int.tdiv_eq_ediv_of_nonneg (by omega)]; omega
    have e2 : Int.tmod (i : Int) 8 = ((i % 8 : Nat) : Int) := by rw [Int.tmod_eq_emod_of_nonneg (by omega)]; omega
    have e3 : wrap64 (wrap64 (12 + 32) + wrap64 (Int.tdiv (i : Int) 8)) = ((44 + i / 8 : Nat) : Int) := by
      rw [e1, w44, w64 (x := ((i / 8 : Nat) : Int)) (by omega) (by omega), w64 (by omega) (by omega)]; omega
    have e4 : IntKind.u64.wrap (Int.tmod (i : Int) 8) = ((i % 8 : Nat) : Int) := by rw [e2, IntKind.wrap_u64]; omega
    have hbit : (Int.tmod (shr .u8 (rd (ofN b) (((44 + i / 8 : Nat)) : Int)) ((i % 8 : Nat) : Int)) 2 = 1) ↔ (le (mapB b)).testBit i = true := by
      rw [rd_ofN, Int.toNat_natCast, shr_nat .u8 _ (i % 8) _ rfl (by simp [IntKind.bits]; omega), Nat.testBit_eq_decide_div_mod_eq, decide_eq_true_eq, ← hq]
      generalize b.getD (44 + i / 8) 0 / 2 ^ (i % 8) = q
      clear hq hs ih
      rw [Int.tmod_eq_emod_of_nonneg (by omega)]
      omega
    refine Ev.step (fun k => ?_) hs
    clear hs ih hq
    simp only [q11_Get.l1, e3, e4]
    rw [if_pos (show (i : Int) < 62 by omega), if_pos (show (0 : Int) ≤ ((44 + i / 8 : Nat) : Int) by omega), if_pos (show ((44 + i / 8 : Nat) : Int) < ((ofN b).length : Int) by rw [ofN_length]; omega), if_pos (show (0 : Int) ≤ ((i % 8 : Nat) : Int) by omega), wi i 62 (by omega) (by omega)]
    by_cases hc : (le (mapB b)).testBit i = true
    · rw [if_pos (hbit.2 hc), if_pos (show (packsTo (le (mapB b)) i).length < 17592186044416 by omega), if_pos hc]
    · rw [if_neg (fun h => hc (hbit.1 h)), if_neg hc]
theorem refGet_ev (b : List Nat) (hb : ∀ x ∈ b, x < 256) : Ev (fun k => q11_Get.f k (ofN b)) (getV b) := by
  by_cases hlen : b.length = 256
  · have hgl : (genB b).length = 8 := by rw [genB, List.length_take, List.length_drop]; omega
    have hgx : ∀ x ∈ genB b, x < 256 := fun x hx => hb x (List.mem_of_mem_drop (List.mem_of_mem_take hx))
    have hG : le (genB b) < 18446744073709551616 := le8_lt (b.drop 4) (fun x hx => hb x (List.mem_of_mem_drop hx))
    have hK : ∀ x ∈ ofN (keyB b), 0 ≤ x ∧ x < 256 := by
      intro x hx
      obtain ⟨n, hn, rfl⟩ := List.mem_map.1 hx
      have := hb n (List.mem_of_mem_drop (List.mem_of_mem_take hn))
      simp only [Int.ofNat_eq_natCast]
      omega
    have hKl : (ofN (keyB b)).length = 32 := by rw [ofN_length, keyB, List.length_take, List.length_drop]; omega
    have e2 := refFrom_ev (ofN (keyB b)) hK (by rw [hKl]; decide)
    have hF : fromOf (ofN (keyB b)) = (hexOf (ofN (keyB b)), 0) := by unfold fromOf; rw [if_pos (by rw [hKl]; rfl)]
    rw [hF] at e2
    have hcut : (((ofN b).take ((44 : Int) : Int).toNat).drop 12) = ofN (keyB b) := by
      rw [ofN_take, ofN_drop, keyB, List.drop_take]
      rfl
    have hp := refPut_ev (decG b) (decK b) (decP b) (Nat.lt_of_le_of_lt (packsTo_len (le (mapB b)) 62) (by decide))
    have hlast : Ev (fun k => (q11_Put.f k (decG b) (decK b) (packsAt (le (mapB b)))).bind fun bt515 => (if bt515.2 = 0 then ((q02_Same.f bt515.1 (ofN b)).bind fun t519 => (if t519 = true then (some (decG b, decK b, packsAt (le (mapB b)), 0)) else (some (0, (⟨#[]⟩ : ByteArray), ([] : List Int), 110)))) else (some (0, (⟨#[]⟩ : ByteArray), ([] : List Int), 110)))) (getV b) := by
      refine Ev.bind hp ?_
      refine Ev.congr (fun k => ?_) (Ev.now _)
      unfold putR getV
      by_cases ho : okS (decG b) (decK b) (decP b) = true
      · rw [if_pos ho, if_pos rfl, refSame_bytes _ _ (putV_lt (okS_parts ho).2.2.2) hb, Option.bind_some]
        by_cases hq : putV (decG b) (decK b) (decP b) = b
        · rw [if_pos (by simp [hq]), if_pos ⟨hlen, ho, hq⟩]; rfl
        · rw [if_neg (by simp [hq]), if_neg (fun h => hq h.2.2)]
      · rw [if_neg ho, if_neg (by decide), if_neg (fun h => ho h.2.1)]
    have h1 := refGet_l1 b hb hlen (decG b) (decK b) _ hlast 62 0 (by omega)
    have h0 : ∀ j : Nat, j ≤ 8 → Ev (fun k => q11_Get.l0 k (ofN b) ((le ((genB b).drop j) : Nat) : Int) ((j : Int) - 1)) (getV b) := by
      intro j
      induction j with
      | zero =>
        intro _
        rw [List.drop_zero]
        by_cases hgt : 4611686018427387903 < le (genB b)
        · rw [get_great hgt hG]
          refine Ev.step (f := fun _ => some (0, (⟨#[]⟩ : ByteArray), [], 110)) (fun k => ?_) (Ev.now _)
          simp only [q11_Get.l0]
          rw [if_neg (by omega), if_pos (by omega)]
        · have hg : wrap64 ((le (genB b) : Nat) : Int) = decG b := by unfold decG; rw [w64 (by omega) (by omega)]; omega
          have h2 : Ev (fun k => (q07_From.f k (ofN (keyB b))).bind fun t => q11_Get.l1 k (ofN b) 12 0 (decG b) t.1 ([] : List Int)) (getV b) := Ev.bind e2 h1
          refine Ev.step (fun k => ?_) h2
          simp only [q11_Get.l0]
          rw [if_neg (by omega), if_neg (by omega), if_pos (by decide), if_pos (by rw [ofN_length, hlen]; decide), hcut, hg]
      | succ j ih =>
        intro hj
        have hd : (genB b).drop j = (genB b)[j]'(by omega) :: (genB b).drop (j + 1) := List.drop_eq_getElem_cons (by omega)
        have hlt := le_lt ((genB b).drop (j + 1)) (fun x hx => hgx x (List.mem_of_mem_drop hx))
        have hlt2 : le ((genB b).drop (j + 1)) < 2 ^ 56 := Nat.lt_of_lt_of_le hlt (Nat.pow_le_pow_right (by decide) (by rw [List.length_drop]; omega))
        have hbyte : b.getD (4 + j) 0 = (genB b)[j]'(by omega) := by
          rw [List.getD_eq_getElem?_getD]
          have : (genB b)[j]? = b[4 + j]? := by rw [genB, List.getElem?_take_of_lt (by omega), List.getElem?_drop]
          rw [← this, List.getElem?_eq_getElem (by omega), Option.getD_some]
        have hbl := hgx _ (List.getElem_mem (l := genB b) (n := j) (by omega))
        have hih := ih (by omega)
        rw [hd, le_cons hbl] at hih
        refine Ev.step (fun k => ?_) hih
        simp only [q11_Get.l0]
        have e : wrap64 (4 + (((j + 1 : Nat) : Int) - 1)) = ((4 + j : Nat) : Int) := by rw [w64 (by omega) (by omega)]; omega
        rw [if_pos (by omega), e, if_pos (by omega), if_pos (by rw [ofN_length]; omega), rd_ofN, Int.toNat_natCast, hbyte]
        congr 1
        · simp only [IntKind.wrap_u64]
          omega
        · rw [w64 (by omega) (by omega)]; omega
    have h2 := h0 8 (Nat.le_refl _)
    rw [List.drop_of_length_le (by omega)] at h2
    refine Ev.congr (fun k => ?_) h2
    unfold q11_Get.f
    rw [if_pos (by rw [ofN_length, hlen]; rfl)]
    rfl
  · refine Ev.congr (fun k => ?_) (Ev.now (getV b))
    unfold q11_Get.f getV
    rw [if_neg (by rw [ofN_length]; omega), if_neg (fun h => hlen h.1)]
end Go.Proofs.YtfffnogmkbbfkaaDoor.SupB

namespace Go.Proofs.YtfffnogmkbbfkaaDoor.SupB
open Go.RowKit Go.Proofs.YtfffnogmkbbfkaaDoor.Fn Go.Proofs.YtfffnogmkbbfkaaDoorW.PrintWords Go.Proofs.YtfffnogmkbbfkaaDoorW.PrintLast Go.Proofs.YtfffnogmkbbfkaaDoor.U Go.Proofs.YtfffnogmkbbfkaaDoor.CrcA Go.Proofs.YtfffnogmkbbfkaaDoor.Pure Go.Proofs.YtfffnogmkbbfkaaDoor.SupA
set_option linter.unusedVariables false
set_option linter.unusedSimpArgs false
theorem refChoose_ev (a b : List Nat) (ha : ∀ x ∈ a, x < 256) (hb : ∀ x ∈ b, x < 256) : Ev (fun k => q11_Choose.f k (ofN a) (ofN b)) (chooseV (getV a) (getV b)) := by
  refine Ev.bind (refGet_ev a ha) (Ev.bind (refGet_ev b hb) ?_)
  generalize getV a = x
  generalize getV b = y
  unfold chooseV
  by_cases h1 : x.2.2.2 = 0
  · simp only [if_pos h1]
    refine Ev.step (fun k => ?_) (Ev.now _)
    simp only [q11_Choose.j0]
    rw [if_neg (by decide)]
    by_cases h2 : y.2.2.2 = 0
    · rw [if_pos h2, if_pos h1, if_pos h2]
      by_cases h3 : y.1 > x.1
      · rw [if_neg (by omega), if_pos h3]
      · rw [if_pos (by omega), if_neg h3]
    · rw [if_neg h2, if_neg h2]
  · simp only [if_neg h1]
    refine Ev.step (fun k => ?_) (Ev.now _)
    simp only [q11_Choose.j0]
    by_cases h2 : y.2.2.2 = 0
    · rw [if_neg (by rw [h2]; decide), if_pos h2, if_neg h1, if_pos h2]
    · rw [if_pos (by simpa using h2), if_neg h2]
end Go.Proofs.YtfffnogmkbbfkaaDoor.SupB

namespace Go.Proofs.YtfffnogmkbbfkaaDoor.SupB
open Go.RowKit Go.Proofs.YtfffnogmkbbfkaaDoor.Fn Go.Proofs.YtfffnogmkbbfkaaDoorW.PrintWords Go.Proofs.YtfffnogmkbbfkaaDoorW.PrintLast Go.Proofs.YtfffnogmkbbfkaaDoor.U Go.Proofs.YtfffnogmkbbfkaaDoor.CrcA Go.Proofs.YtfffnogmkbbfkaaDoor.Pure Go.Proofs.YtfffnogmkbbfkaaDoor.SupA Go.Proofs.YtfffnogmkbbfkaaDoor.SupN
set_option linter.unusedVariables false
set_option linter.unusedSimpArgs false
theorem refNext_l1 (l : List Int) (hl : l.length ≤ 1000) (i : Nat) (hi : i < l.length) (G : Int) (t : ByteArray) (acc : List Int) (hacc : acc.length ≤ i) (hr : acc.Pairwise (· < ·)) (r : Int × ByteArray × List Int × Int)
    (H : Ev (fun k => q11_Next.l0 k l ((i + 1 : Nat) : Int) G t (insR acc l[i])) r) (d : Nat) :
    ∀ n : Nat, n + d = acc.length → (∀ j (h : j < acc.length), j < n → acc[j] < l[i]) → Ev (fun k => q11_Next.l1 k l (i : Int) (n : Int) G t acc) r := by
  have er : rd l (i : Int) = l[i] := by unfold rd; rw [Int.toNat_natCast, List.getD_eq_getElem?_getD, List.getElem?_eq_getElem hi]; rfl
  have hw : wrap64 ((i : Int) + 1) = ((i + 1 : Nat) : Int) := wi i l.length hi (by omega)
  induction d with
  | zero =>
    intro n hn hj
    obtain rfl : n = acc.length := by omega
    have e := insR_at acc l[i] acc.length hj (Nat.le_refl _) (fun h => absurd h (Nat.lt_irrefl _))
    rw [if_neg (by rintro ⟨h, _⟩; exact absurd h (Nat.lt_irrefl _))] at e
    rw [e] at H
    refine Ev.step (fun k => ?_) H
    simp only [q11_Next.l1, Option.bind_some, List.nil_append, Int.toNat_natCast]
    rw [if_neg (show ¬ (acc.length : Int) < (acc.length : Int) by omega)]
    simp only [if_true, er, hw, if_pos (show (0 : Int) ≤ (acc.length : Int) by omega), if_pos (show (acc.length : Int) ≤ (acc.length : Int) by omega), if_pos (show (0 : Int) ≤ (i : Int) by omega), if_pos (show (i : Int) < (l.length : Int) by omega)]
    rw [if_pos (by simp; omega), if_pos (by simp; omega), if_pos (by simp; omega)]
  | succ d ih =>
    intro n hn hj
    have hlt : n < acc.length := by omega
    have ea : rd acc (n : Int) = acc[n] := by unfold rd; rw [Int.toNat_natCast, List.getD_eq_getElem?_getD, List.getElem?_eq_getElem hlt]; rfl
    by_cases h1 : acc[n] < l[i]
    · refine Ev.step (fun k => ?_) (ih (n + 1) (by omega) (fun j h hj' => by
        rcases Nat.lt_or_ge j n with h' | h'
        · exact hj j h h'
        · obtain rfl : j = n := by omega
          exact h1))
      simp only [q11_Next.l1]
      rw [if_pos (by omega), if_pos (by omega), if_pos (by omega), if_pos (by omega), ea, er, if_pos h1, wi n acc.length hlt (by omega)]
    · have e := insR_at acc l[i] n (fun j h hj' => hj j h hj') (by omega) (fun _ => h1)
      by_cases h2 : acc[n] = l[i]
      · rw [if_pos ⟨hlt, h2⟩] at e
        rw [e] at H
        refine Ev.step (fun k => ?_) H
        simp only [q11_Next.l1]
        rw [if_pos (by omega), if_pos (by omega), if_pos (by omega), if_pos (by omega), ea, er, if_neg h1, if_neg (by omega), if_pos h2, hw]
      · rw [if_neg (by rintro ⟨_, h⟩; exact h2 h)] at e
        rw [e] at H
        refine Ev.step (fun k => ?_) H
        simp only [q11_Next.l1, Option.bind_some, List.nil_append, Int.toNat_natCast]
        rw [if_pos (by omega), if_pos (by omega), if_pos (by omega), if_pos (by omega), ea, er, if_neg h1, if_neg (by omega), if_neg h2, if_pos (by omega), if_pos (by simp; omega), if_pos (by simp; omega), if_pos (by simp; omega), hw]
theorem refNext_l0 (l : List Int) (hl : l.length ≤ 1000) (G : Int) (t : ByteArray) (d : Nat) :
    ∀ i : Nat, i + d = l.length → Ev (fun k => q11_Next.l0 k l (i : Int) G t ((l.take i).foldl insR [])) (if okS G t (l.foldl insR []) = true then (G, t, l.foldl insR [], 0) else (0, (⟨#[]⟩ : ByteArray), [], 110)) := by
  have hlen : ∀ (xs acc : List Int), (xs.foldl insR acc).length ≤ acc.length + xs.length := by
    have h1 : ∀ (ps : List Int) (x : Int), (insR ps x).length ≤ ps.length + 1 := by
      intro ps x
      induction ps with
      | nil => simp [insR]
      | cons p ps ih => unfold insR; split; · simp; omega
                        · split <;> simp
    intro xs
    induction xs with
    | nil => intro acc; simp
    | cons x xs ih => intro acc; have := ih (insR acc x); have := h1 acc x; simp only [List.foldl_cons, List.length_cons]; omega
  induction d with
  | zero =>
    intro i hi
    obtain rfl : i = l.length := by omega
    have h2 := hlen l []
    refine Ev.succ ?_
    simp only [q11_Next.l0]
    rw [List.take_length]
    simp only [if_neg (show ¬ (l.length : Int) < (l.length : Int) by omega)]
    refine Ev.bind (refSuper_ev G t (l.foldl insR []) (by simp at h2; omega)) ?_
    split
    · exact Ev.now _
    · exact Ev.now _
  | succ d ih =>
    intro i hi
    have hlt : i < l.length := by omega
    have h2 := hlen (l.take i) []
    have hh := ih (i + 1) (by omega)
    rw [List.take_succ_eq_append_getElem hlt, List.foldl_append, List.foldl_cons, List.foldl_nil] at hh
    have h1 := refNext_l1 l hl i hlt G t _ (by simp at h2; omega) (insRs (l.take i) [] List.Pairwise.nil).1 _ hh _ 0 (Nat.zero_add _) (fun j _ hj => absurd hj (Nat.not_lt_zero j))
    refine Ev.step (fun k => ?_) h1
    simp only [q11_Next.l0]
    rw [if_pos (show (i : Int) < (l.length : Int) by omega)]
    rfl
theorem okS_next {g : Int} {t : ByteArray} {q : List Int} (h1 : 1 ≤ g) (h2 : g ≤ 4611686018427387903) (h3 : g ≠ 4611686018427387903) : okS (g + 1) t q = okS g t q := by
  unfold okS
  rw [decide_eq_true (show 1 ≤ g + 1 by omega), decide_eq_true (show g + 1 ≤ 4611686018427387903 by omega), decide_eq_true h1, decide_eq_true h2]
theorem refNext_ev (g : Int) (s : ByteArray) (ps : List Int) (t : ByteArray) (l : List Int) (hp : ps.length < 1152921504606846976) (hl : l.length ≤ 1000) :
    Ev (fun k => q11_Next.f k g s ps t l) (if okS g s ps = true ∧ g ≠ 4611686018427387903 ∧ okS g t (nextPacks l) = true then (g + 1, t, nextPacks l, 0) else (0, (⟨#[]⟩ : ByteArray), [], 110)) := by
  have hpk : l.foldl insR [] = nextPacks l := packs_eq l
  refine Ev.bind (refSuper_ev g s ps hp) ?_
  cases h : okS g s ps with
  | false =>
    simp only [Bool.false_eq_true, if_false, false_and]
    refine Ev.step (f := fun _ => some (0, (⟨#[]⟩ : ByteArray), [], 110)) (fun k => ?_) (Ev.now _)
    simp only [q11_Next.j0, if_true]
  | true =>
    obtain ⟨_, p1, p2, _⟩ := okS_parts h
    simp only [if_true, true_and]
    by_cases hg : g = 4611686018427387903
    · rw [if_neg (fun hh => hh.1 hg), beq_iff_eq.2 hg]
      refine Ev.step (f := fun _ => some (0, (⟨#[]⟩ : ByteArray), [], 110)) (fun k => ?_) (Ev.now _)
      simp only [q11_Next.j0, if_true]
    · rw [beq_eq_false_iff_ne.2 hg]
      have h0 := refNext_l0 l hl (g + 1) t l.length 0 (by omega)
      rw [hpk, okS_next p1 p2 hg] at h0
      have hw : wrap64 (g + 1) = g + 1 := w64 (by omega) (by omega)
      have hv : (if g ≠ 4611686018427387903 ∧ okS g t (nextPacks l) = true then (g + 1, t, nextPacks l, (0 : Int)) else (0, (⟨#[]⟩ : ByteArray), [], 110)) = (if okS g t (nextPacks l) = true then (g + 1, t, nextPacks l, 0) else (0, (⟨#[]⟩ : ByteArray), [], 110)) := by
        simp only [hg, ne_eq, not_false_eq_true, true_and]
      rw [hv]
      refine Ev.step (fun k => ?_) h0
      simp only [q11_Next.j0, Bool.false_eq_true, if_false, hw]
      rfl
end Go.Proofs.YtfffnogmkbbfkaaDoor.SupB
