/- What the document's functions for the checksum come to, and the heads. -/
import Derived.Test.YtohhpobgmhoeoaaCrcB
import Derived.Test.YtohhpobgmhoeoaaHx0
import Derived.Test.YtohhpobgmhoeoaaHx2
import Derived.Test.YtohhpobgmhoeoaaHx4
namespace Go.Proofs.Ytohhpobgmhoeoaa.CrcC
open Go.RowKit Go.Proofs.Ytohhpobgmhoeoaa.Fn Go.Proofs.YtohhpobgmhoeoaaW.PrintWords Go.Proofs.YtohhpobgmhoeoaaW.PrintLast Go.Proofs.Ytohhpobgmhoeoaa.U Go.Proofs.Ytohhpobgmhoeoaa.CrcA Go.Proofs.Ytohhpobgmhoeoaa.CrcB

theorem rstep (d : Nat) : ∀ c : Nat, d ≤ 8 → c < 4294967296 → Ev (fun k => palimpsestref03_step.l0 k (c : Int) (8 - (d : Int))) ((Tn d c : Nat) : Int) := by
  induction d with
  | zero =>
    intro c _ _
    refine Ev.step (fun k => ?_) (Ev.now _)
    simp only [palimpsestref03_step.l0]
    rw [if_neg (by omega)]
    rfl
  | succ d ih =>
    intro c hd hc
    refine Ev.step (fun k => ?_) (ih (T c) (by omega) (T_lt hc))
    simp only [palimpsestref03_step.l0]
    have ew : wrap64 (8 - ((d + 1 : Nat) : Int) + 1) = 8 - (d : Int) := by rw [w64 (by omega) (by omega)]; omega
    have ed : Int.tdiv (c : Int) 2 % 4294967296 = ((c / 2 : Nat) : Int) := by
      rw [Int.tdiv_eq_ediv_of_nonneg (by omega)]; omega
    have em : Int.tmod (c : Int) 2 = ((c % 2 : Nat) : Int) := by
      rw [Int.tmod_eq_emod_of_nonneg (by omega)]; omega
    rw [if_pos (by omega), ew, ed, em]
    unfold T
    rcases Nat.mod_two_eq_zero_or_one c with h0 | h0
    · rw [h0, if_neg (by decide), if_neg (by decide)]
      simp
    · rw [h0, if_pos (by decide), if_pos rfl]
      have := u32_xor_nat (c / 2) 3988292384 (by omega) (by decide)
      rw [← this]
      rfl
theorem rstep_ev (c x : Nat) (hc : c < 4294967296) (hx : x < 256) : Ev (fun k => palimpsestref03_step.f k (c : Int) (x : Int)) ((Tn 8 (c ^^^ x) : Nat) : Int) := by
  refine Ev.congr (fun k => ?_) (rstep 8 (c ^^^ x) (by decide) (xor_byte_lt hc hx))
  unfold palimpsestref03_step.f
  have e : ((x : Nat) : Int) % 4294967296 = (x : Int) := by omega
  rw [e, u32_xor_nat c x hc (by omega)]
  rfl
theorem rl0_ev (ys : List Nat) : ∀ (xs : List Nat) (c : Nat), c < 4294967296 → (∀ y ∈ ys, y < 256) → (xs ++ ys).length ≤ 140737488355328 →
    Ev (fun k => palimpsestref03_More.l0 k (ofN (xs ++ ys)) (c : Int) (xs.length : Int)) ((4294967295 - F c ys : Nat) : Int) := by
  induction ys with
  | nil =>
    intro xs c hc _ _
    refine Ev.step (fun k => ?_) (Ev.now _)
    simp only [palimpsestref03_More.l0]
    rw [if_neg (by simp)]
    simp only [F]
    congr 1
    omega
  | cons y ys ih =>
    intro xs c hc hy hl
    have hyb : y < 256 := hy y (by simp)
    have hcx : c ^^^ y < 4294967296 := xor_byte_lt hc hyb
    have h1 := ih (xs ++ [y]) (Tn 8 (c ^^^ y)) (Tn_lt 8 hcx) (fun z hz => hy z (by simp [hz])) (by simpa using hl)
    rw [List.append_assoc] at h1
    have hlen : (xs ++ [y]).length = xs.length + 1 := by simp
    rw [hlen] at h1
    have hlt : (xs.length : Int) < ((xs ++ y :: ys).length : Int) := by simp; omega
    have hb : (xs ++ y :: ys).length ≤ 140737488355328 := hl
    refine Ev.step (fun k => ?_) (Ev.bind (rstep_ev c y hc hyb) (f := fun k t => palimpsestref03_More.l0 k (ofN (xs ++ y :: ys)) t (wrap64 ((xs.length : Int) + 1))) (Ev.congr (fun k => ?_) h1))
    · simp only [palimpsestref03_More.l0]
      rw [if_pos (by rw [ofN_length]; exact hlt), if_pos (by omega), rd_at _ _ _ _ rfl]
    · rw [w64 (by omega) (by omega)]
      rfl
theorem xor_all {c : Nat} (h : c < 4294967296) : 4294967295 ^^^ c = 4294967295 - c := by
  apply Nat.eq_of_testBit_eq
  intro i
  rw [Nat.testBit_xor]
  have e1 : 4294967295 - c = 2 ^ 32 - (c + 1) := by omega
  have e2 : (4294967295 : Nat) = 2 ^ 32 - 1 := by decide
  rw [e1, Nat.testBit_two_pow_sub_succ h, e2, Nat.testBit_two_pow_sub_one]
  by_cases hi : i < 32
  · simp [hi]
  · have : c.testBit i = false := Nat.testBit_lt_two_pow (Nat.lt_of_lt_of_le h (Nat.pow_le_pow_right (n := 2) (by decide) (by omega : 32 ≤ i)))
    simp [hi, this]
theorem rmore_ev (sum : Nat) (xs : List Nat) (hs : sum < 4294967296) (hx : ∀ x ∈ xs, x < 256) (hl : xs.length ≤ 140737488355328) :
    Ev (fun k => palimpsestref03_More.f k (sum : Int) (ofN xs)) ((4294967295 ^^^ F (4294967295 ^^^ sum) xs : Nat) : Int) := by
  have hxs : 4294967295 ^^^ sum < 4294967296 := Nat.xor_lt_two_pow (n := 32) (by decide) hs
  have h := rl0_ev xs [] (4294967295 ^^^ sum) hxs hx (by simpa using hl)
  rw [xor_all (F_lt xs hxs hx)]
  refine Ev.congr (fun k => ?_) h
  unfold palimpsestref03_More.f
  have : ((4294967295 - (sum : Int)) % 4294967296) = ((4294967295 ^^^ sum : Nat) : Int) := by rw [xor_all hs]; omega
  rw [this]
  rfl
theorem rsum_ev (xs : List Nat) (hx : ∀ x ∈ xs, x < 256) (hl : xs.length ≤ 140737488355328) :
    Ev (fun k => palimpsestref03_Sum.f k (ofN xs)) ((4294967295 ^^^ F 4294967295 xs : Nat) : Int) :=
  Ev.congr (fun _ => rfl) (Ev.bind (rmore_ev 0 xs (by decide) hx hl) (Ev.now _))
theorem rbytes_ev (xs : List Nat) (hx : ∀ x ∈ xs, x < 256) (hl : xs.length ≤ 140737488355320) : Ev (fun k => palimpsestref03_Bytes.f k (ofN xs)) (ofN (CrcA.bytes xs)) := by
  refine Ev.congr (fun k => ?_) (Ev.bind (rsum_ev xs hx (by omega)) (f := fun k t => some (ofN xs ++ [t % 256, t / 256 % 256, t / 65536 % 256, t / 16777216 % 256])) ?_)
  · unfold palimpsestref03_Bytes.f
    congr 1
    funext t
    simp only [Option.bind_some, List.length_nil, List.nil_append, List.length_cons, ofN_length]
    rw [if_pos (by omega), if_pos (by omega)]
  · refine Ev.congr (fun k => ?_) (Ev.now _)
    congr 1
    unfold CrcA.bytes bytes4
    simp
theorem rright_ev (xs : List Nat) (hx : ∀ x ∈ xs, x < 256) (hl : xs.length ≤ 140737488355320) : Ev (fun k => palimpsestref03_Right.f k (ofN xs)) (right xs) := by
  have hw : wrap64 (((ofN xs).length : Int) - 4) = (xs.length : Int) - 4 := by rw [ofN_length, w64 (by omega) (by omega)]
  by_cases h4 : 4 ≤ xs.length
  · have hb := rbytes_ev (xs.take (xs.length - 4)) (fun x h => hx x (List.mem_of_mem_take h)) (by simp; omega)
    have e : ((xs.length : Int) - 4).toNat = xs.length - 4 := by omega
    have hr : ((strOfNums (ofN (CrcA.bytes (xs.take (xs.length - 4))))).toList == (strOfNums (ofN xs)).toList) = right xs := by
      rw [str_eq (bytes_lt (fun x h => hx x (List.mem_of_mem_take h))) hx]
      unfold right CrcA.bytes
      simp only [h4, decide_true, Bool.true_and]
      rw [Bool.eq_iff_iff, beq_iff_eq, beq_iff_eq]
      constructor
      · intro h
        have := congrArg (List.drop (xs.length - 4)) h
        rw [List.drop_append_of_le_length (by simp), List.drop_eq_nil_of_le (by simp)] at this
        exact this.symm
      · intro h
        rw [← h, List.take_append_drop]
    refine Ev.congr (fun k => ?_) (Ev.bind hb (f := fun _ t => some ((strOfNums t).toList == (strOfNums (ofN xs)).toList)) (by rw [hr]; exact Ev.now _))
    unfold palimpsestref03_Right.f
    rw [hw, if_pos (by omega), if_pos (by omega), if_pos (by rw [ofN_length]; omega), e, ofN_take]
  · have : right xs = false := by simp [right, h4]
    rw [this]
    refine Ev.congr (fun k => ?_) (Ev.now false)
    unfold palimpsestref03_Right.f
    rw [hw, if_neg (by omega)]
set_option maxRecDepth 100000 in
theorem heads_ev : Ev (fun k => palimpsestlaw03_heads.f k) true :=
  Ev.of palimpsestlaw03_heads.mono (k := 120) (by decide +kernel)
end Go.Proofs.Ytohhpobgmhoeoaa.CrcC
