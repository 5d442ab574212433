import Derived.Test.YtfffnogmkbbfkaaDoorU
import Derived.Test.YtfffnogmkbbfkaaDoorCrcA
import Derived.Test.YtfffnogmkbbfkaaDoorHx0
import Derived.Test.YtfffnogmkbbfkaaDoorHx1
import Derived.Test.YtfffnogmkbbfkaaDoorHx2
import Derived.Test.YtfffnogmkbbfkaaDoorHx11
import Derived.Test.YtfffnogmkbbfkaaDoorHx12
namespace Go.Proofs.YtfffnogmkbbfkaaDoor.CrcB
open Go.RowKit Go.Proofs.YtfffnogmkbbfkaaDoor.Fn Go.Proofs.YtfffnogmkbbfkaaDoorW.PrintWords Go.Proofs.YtfffnogmkbbfkaaDoorW.PrintLast Go.Proofs.YtfffnogmkbbfkaaDoor.U Go.Proofs.YtfffnogmkbbfkaaDoor.CrcA
set_option linter.unusedVariables false
set_option linter.unusedSimpArgs false
theorem step (c : Nat) (h : c < 4294967296) : Go.bits .xor .u32 ((c : Int) / 2) (Go.bits .and .u32 3988292384 ((-(Go.bits .and .u32 (c : Int) 1)) % 4294967296)) = ((T c : Nat) : Int) := by
  have e1 : Go.bits .and .u32 (c : Int) 1 = ((c % 2 : Nat) : Int) := by
    have := u32_and_nat c 1 h (by decide)
    rw [nat_mask1] at this
    exact this
  rw [e1]
  unfold T
  rcases Nat.mod_two_eq_zero_or_one c with h0 | h0
  · rw [h0, if_neg (by decide)]
    have e2 : Go.bits .and .u32 3988292384 ((-((0 : Nat) : Int)) % 4294967296) = ((0 : Nat) : Int) := by decide
    rw [e2]
    have := u32_xor_nat (c / 2) 0 (by omega) (by decide)
    rw [← this]
    rfl
  · rw [h0, if_pos rfl]
    have e2 : Go.bits .and .u32 3988292384 ((-((1 : Nat) : Int)) % 4294967296) = ((3988292384 : Nat) : Int) := by decide
    rw [e2]
    have := u32_xor_nat (c / 2) 3988292384 (by omega) (by decide)
    rw [← this]
    rfl
theorem l1_ev (d : Nat) : ∀ (c : Nat) (xs : List Int) (n i : Int) (r : Int), d ≤ 8 → c < 4294967296 → Ev (fun k => crc_More.l0 k ((Tn d c : Nat) : Int) xs n (wrap64 (i + 1))) r →
    Ev (fun k => crc_More.l1 k (c : Int) xs n i (8 - (d : Int))) r := by
  induction d with
  | zero =>
    intro c xs n i r _ _ h
    refine Ev.step (fun k => ?_) h
    simp only [crc_More.l1]
    rw [if_neg (by omega)]
    rfl
  | succ d ih =>
    intro c xs n i r hd hc h
    refine Ev.step (fun k => ?_) (ih (T c) xs n i r (by omega) (T_lt hc) h)
    simp only [crc_More.l1]
    rw [if_pos (by omega), step c hc, w64 (by omega) (by omega)]
    congr 1
    omega
theorem l0_ev (ys : List Nat) : ∀ (xs : List Nat) (c : Nat), c < 4294967296 → (∀ y ∈ ys, y < 256) → (xs ++ ys).length ≤ 140737488355328 →
    Ev (fun k => crc_More.l0 k (c : Int) (ofN (xs ++ ys)) ((xs ++ ys).length : Int) (xs.length : Int)) ((4294967295 ^^^ F c ys : Nat) : Int) := by
  induction ys with
  | nil =>
    intro xs c hc _ _
    refine Ev.step (fun k => ?_) (Ev.now _)
    simp only [crc_More.l0]
    rw [if_neg (by simp)]
    exact congrArg some (u32_xor_nat 4294967295 c (by decide) hc)
  | cons y ys ih =>
    intro xs c hc hy hl
    have hyb : y < 256 := hy y (by simp)
    have hcx : c ^^^ y < 4294967296 := xor_byte_lt hc hyb
    have h1 := ih (xs ++ [y]) (Tn 8 (c ^^^ y)) (Tn_lt 8 hcx) (fun z hz => hy z (by simp [hz])) (by simpa using hl)
    rw [List.append_assoc] at h1
    have hlen : (xs ++ [y]).length = xs.length + 1 := by simp
    rw [hlen] at h1
    have hlt : (xs.length : Int) < ((xs ++ y :: ys).length : Int) := by simp; omega
    have hb : (xs ++ y :: ys).length ≤ 140737488355328 := hl
    refine Ev.step (fun k => ?_) (l1_ev 8 (c ^^^ y) (ofN (xs ++ y :: ys)) ((xs ++ y :: ys).length : Int) (xs.length : Int) _ (by decide) hcx (Ev.congr (fun k => ?_) h1))
    · simp only [crc_More.l0]
      rw [if_pos hlt, if_pos (by omega), if_pos (by rw [ofN_length]; exact hlt), rd_at _ _ _ _ rfl]
      have e : ((y : Nat) : Int) % 4294967296 = (y : Int) := by omega
      rw [e, u32_xor_nat c y hc (by omega)]
      rfl
    · rw [w64 (by omega) (by omega)]
      rfl
theorem more_ev (sum : Nat) (xs : List Nat) (hs : sum < 4294967296) (hx : ∀ x ∈ xs, x < 256) (hl : xs.length ≤ 140737488355328) :
    Ev (fun k => crc_More.f k (sum : Int) (ofN xs)) ((4294967295 ^^^ F (4294967295 ^^^ sum) xs : Nat) : Int) := by
  have h := l0_ev xs [] (4294967295 ^^^ sum) (Nat.xor_lt_two_pow (n := 32) (by decide) hs) hx (by simpa using hl)
  refine Ev.congr (fun k => ?_) h
  unfold crc_More.f
  rw [← u32_xor_nat 4294967295 sum (by decide) hs, ofN_length]
  rfl
theorem sum_ev (xs : List Nat) (hx : ∀ x ∈ xs, x < 256) (hl : xs.length ≤ 140737488355328) :
    Ev (fun k => crc_Sum.f k (ofN xs)) ((4294967295 ^^^ F 4294967295 xs : Nat) : Int) := by
  have h := more_ev 0 xs (by decide) hx hl
  refine Ev.congr (fun k => ?_) (Ev.bind h (Ev.now _))
  rfl
theorem bytes_l0 (s : Nat) (j : Nat) : ∀ (xs : List Nat), j ≤ 4 → s < 4294967296 → xs.length ≤ 140737488355320 →
    Ev (fun k => crc_Bytes.l0 k (ofN (xs ++ (bytes4 s).take (4 - j))) (s : Int) (4 - (j : Int))) (ofN (xs ++ bytes4 s)) := by
  induction j with
  | zero =>
    intro xs _ _ _
    refine Ev.step (fun k => ?_) (Ev.now _)
    simp only [crc_Bytes.l0]
    rw [if_neg (by omega)]
    rfl
  | succ j ih =>
    intro xs hj hs hl
    refine Ev.step (fun k => ?_) (ih xs (by omega) hs hl)
    simp only [crc_Bytes.l0]
    rw [if_pos (by omega)]
    have e0 : wrap64 (8 * (4 - ((j + 1 : Nat) : Int))) = ((8 * (3 - j) : Nat) : Int) := by rw [w64 (by omega) (by omega)]; omega
    rw [e0, if_pos (by omega)]
    rw [if_pos (by simp [bytes4]; omega)]
    rw [shr_nat .u32 s (8 * (3 - j)) _ rfl (by simp [IntKind.bits]; omega)]
    have e1 : wrap64 (4 - ((j + 1 : Nat) : Int) + 1) = 4 - (j : Int) := by rw [w64 (by omega) (by omega)]; omega
    rw [e1]
    congr 1
    have e2 : (((s / 2 ^ (8 * (3 - j)) : Nat) : Int)) % 256 = ((s / 2 ^ (8 * (3 - j)) % 256 : Nat) : Int) := by omega
    rw [e2, ← ofN_nil, ← ofN_cons, ← ofN_append, List.append_assoc]
    congr 2
    have : j = 0 ∨ j = 1 ∨ j = 2 ∨ j = 3 := by omega
    rcases this with rfl | rfl | rfl | rfl <;> simp [bytes4]
theorem bytes_ev (xs : List Nat) (hx : ∀ x ∈ xs, x < 256) (hl : xs.length ≤ 140737488355320) : Ev (fun k => crc_Bytes.f k (ofN xs)) (ofN (CrcA.bytes xs)) := by
  have h := bytes_l0 (4294967295 ^^^ F 4294967295 xs) 4 xs (by decide) (Nat.xor_lt_two_pow (n := 32) (by decide) (F_lt xs (by decide) hx)) hl
  refine Ev.congr (fun k => ?_) (Ev.bind (sum_ev xs hx (by omega)) (f := fun k t => crc_Bytes.l0 k (ofN xs) t 0) ?_)
  · unfold crc_Bytes.f
    rw [ofN_length, w64 (by omega) (by omega), if_pos (by omega), if_pos (by omega)]
    simp only [Option.bind_some, List.length_nil]
    rw [if_pos (by omega)]
    rfl
  · refine Ev.congr (fun k => ?_) h
    simp
end Go.Proofs.YtfffnogmkbbfkaaDoor.CrcB
namespace Go.Proofs.YtfffnogmkbbfkaaDoor.CrcC
open Go.RowKit Go.Proofs.YtfffnogmkbbfkaaDoor.Fn Go.Proofs.YtfffnogmkbbfkaaDoorW.PrintWords Go.Proofs.YtfffnogmkbbfkaaDoorW.PrintLast Go.Proofs.YtfffnogmkbbfkaaDoor.U Go.Proofs.YtfffnogmkbbfkaaDoor.CrcA Go.Proofs.YtfffnogmkbbfkaaDoor.CrcB
theorem rstep (d : Nat) : ∀ c : Nat, d ≤ 8 → c < 4294967296 → Ev (fun k => q03_step.l0 k (c : Int) (8 - (d : Int))) ((Tn d c : Nat) : Int) := by
  induction d with
  | zero =>
    intro c _ _
    refine Ev.step (fun k => ?_) (Ev.now _)
    simp only [q03_step.l0]
    rw [if_neg (by omega)]
    rfl
  | succ d ih =>
    intro c hd hc
    refine Ev.step (fun k => ?_) (ih (T c) (by omega) (T_lt hc))
    simp only [q03_step.l0]
    have ew : wrap64 (8 - ((d + 1 : Nat) : Int) + 1) = 8 - (d : Int) := by rw [w64 (by omega) (by omega)]; omega
    have ed : Int.tdiv (c : Int) 2 % 4294967296 = ((c / 2 : Nat) : Int) := by
      rw [Int.tdiv_eq_ediv_of_nonneg (by omega)]; omega
    have em : Int.tmod (c : Int) 2 = ((c % 2 : Nat) : Int) := by
      rw [Int.tmod_eq_emod_of_nonneg (by omega)]; omega
    rw [if_pos (by omega), ew, ed, em]
    unfold T
    rcases Nat.mod_two_eq_zero_or_one c with h0 | h0
    · rw [h0, if_neg (by decide), if_neg (by decide)]
      simp
    · rw [h0, if_pos (by decide), if_pos rfl]
      have := u32_xor_nat (c / 2) 3988292384 (by omega) (by decide)
      rw [← this]
      rfl
theorem rstep_ev (c x : Nat) (hc : c < 4294967296) (hx : x < 256) : Ev (fun k => q03_step.f k (c : Int) (x : Int)) ((Tn 8 (c ^^^ x) : Nat) : Int) := by
  refine Ev.congr (fun k => ?_) (rstep 8 (c ^^^ x) (by decide) (xor_byte_lt hc hx))
  unfold q03_step.f
  have e : ((x : Nat) : Int) % 4294967296 = (x : Int) := by omega
  rw [e, u32_xor_nat c x hc (by omega)]
  rfl
theorem rl0_ev (ys : List Nat) : ∀ (xs : List Nat) (c : Nat), c < 4294967296 → (∀ y ∈ ys, y < 256) → (xs ++ ys).length ≤ 140737488355328 →
    Ev (fun k => q03_More.l0 k (ofN (xs ++ ys)) (c : Int) (xs.length : Int)) ((4294967295 - F c ys : Nat) : Int) := by
  induction ys with
  | nil =>
    intro xs c hc _ _
    refine Ev.step (fun k => ?_) (Ev.now _)
    simp only [q03_More.l0]
    rw [if_neg (by simp)]
    simp only [F]
    congr 1
    omega
  | cons y ys ih =>
    intro xs c hc hy hl
    have hyb : y < 256 := hy y (by simp)
    have hcx : c ^^^ y < 4294967296 := xor_byte_lt hc hyb
    have h1 := ih (xs ++ [y]) (Tn 8 (c ^^^ y)) (Tn_lt 8 hcx) (fun z hz => hy z (by simp [hz])) (by simpa using hl)
    rw [List.append_assoc] at h1
    have hlen : (xs ++ [y]).length = xs.length + 1 := by simp
    rw [hlen] at h1
    have hlt : (xs.length : Int) < ((xs ++ y :: ys).length : Int) := by simp; omega
    have hb : (xs ++ y :: ys).length ≤ 140737488355328 := hl
    refine Ev.step (fun k => ?_) (Ev.bind (rstep_ev c y hc hyb) (f := fun k t => q03_More.l0 k (ofN (xs ++ y :: ys)) t (wrap64 ((xs.length : Int) + 1))) (Ev.congr (fun k => ?_) h1))
    · simp only [q03_More.l0]
      rw [if_pos (by rw [ofN_length]; exact hlt), if_pos (by omega), rd_at _ _ _ _ rfl]
    · rw [w64 (by omega) (by omega)]
      rfl
theorem xor_all {c : Nat} (h : c < 4294967296) : 4294967295 ^^^ c = 4294967295 - c := by
  apply Nat.eq_of_testBit_eq
  intro i
  rw [Nat.testBit_xor]
  have e1 : 4294967295 - c = 2 ^ 32 - (c + 1) := by omega
  have e2 : (4294967295 : Nat) = 2 ^ 32 - 1 := by decide
  rw [e1, Nat.testBit_two_pow_sub_succ h, e2, Nat.testBit_two_pow_sub_one]
  by_cases hi : i < 32
  · simp [hi]
  · have : c.testBit i = false := Nat.testBit_lt_two_pow (Nat.lt_of_lt_of_le h (Nat.pow_le_pow_right (n := 2) (by decide) (by omega : 32 ≤ i)))
    simp [hi, this]
theorem rmore_ev (sum : Nat) (xs : List Nat) (hs : sum < 4294967296) (hx : ∀ x ∈ xs, x < 256) (hl : xs.length ≤ 140737488355328) :
    Ev (fun k => q03_More.f k (sum : Int) (ofN xs)) ((4294967295 ^^^ F (4294967295 ^^^ sum) xs : Nat) : Int) := by
  have hxs : 4294967295 ^^^ sum < 4294967296 := Nat.xor_lt_two_pow (n := 32) (by decide) hs
  have h := rl0_ev xs [] (4294967295 ^^^ sum) hxs hx (by simpa using hl)
  rw [xor_all (F_lt xs hxs hx)]
  refine Ev.congr (fun k => ?_) h
  unfold q03_More.f
  have : ((4294967295 - (sum : Int)) % 4294967296) = ((4294967295 ^^^ sum : Nat) : Int) := by rw [xor_all hs]; omega
  rw [this]
  rfl
theorem rsum_ev (xs : List Nat) (hx : ∀ x ∈ xs, x < 256) (hl : xs.length ≤ 140737488355328) :
    Ev (fun k => q03_Sum.f k (ofN xs)) ((4294967295 ^^^ F 4294967295 xs : Nat) : Int) :=
  Ev.congr (fun _ => rfl) (Ev.bind (rmore_ev 0 xs (by decide) hx hl) (Ev.now _))
theorem rbytes_ev (xs : List Nat) (hx : ∀ x ∈ xs, x < 256) (hl : xs.length ≤ 140737488355320) : Ev (fun k => q03_Bytes.f k (ofN xs)) (ofN (CrcA.bytes xs)) := by
  refine Ev.congr (fun k => ?_) (Ev.bind (rsum_ev xs hx (by omega)) (f := fun k t => some (ofN xs ++ [t % 256, t / 256 % 256, t / 65536 % 256, t / 16777216 % 256])) ?_)
  · unfold q03_Bytes.f
    congr 1
    funext t
    simp only [Option.bind_some, List.length_nil, List.nil_append, List.length_cons, ofN_length]
    rw [if_pos (by omega), if_pos (by omega)]
  · refine Ev.congr (fun k => ?_) (Ev.now _)
    congr 1
    unfold CrcA.bytes bytes4
    simp
end Go.Proofs.YtfffnogmkbbfkaaDoor.CrcC
