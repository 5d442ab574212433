set_option linter.unusedVariables false
set_option linter.unusedSimpArgs false
namespace Go.Proofs.Ytjjbofbkpmabbaa.RabA
def D : Nat := 2147483657
def st (i y : Nat) : Nat := if y.testBit i then y ^^^ (D <<< (i - 31)) else y
def red : Nat → Nat → Nat
  | 0, y => y
  | m + 1, y => red m (st (31 + m) y)
theorem xor4 (a b p q : Nat) : (a ^^^ p) ^^^ (b ^^^ q) = (a ^^^ b) ^^^ (p ^^^ q) := by ac_rfl
theorem st_xor (i x y : Nat) : st i (x ^^^ y) = st i x ^^^ st i y := by
  unfold st
  rw [Nat.testBit_xor]
  generalize D <<< (i - 31) = d
  cases hx : x.testBit i <;> cases hy : y.testBit i <;> simp
  · ac_rfl
  · ac_rfl
  · rw [xor4]; simp
theorem red_xor (m : Nat) : ∀ x y : Nat, red m (x ^^^ y) = red m x ^^^ red m y := by
  induction m with
  | zero => intro x y; rfl
  | succ m ih => intro x y; simp only [red]; rw [st_xor, ih]
theorem st_small {i y : Nat} (h : y < 2 ^ i) : st i y = y := by
  unfold st
  rw [Nat.testBit_lt_two_pow h]
  rfl
theorem red_id (m : Nat) : ∀ {y : Nat}, y < 2 ^ 31 → red m y = y := by
  induction m with
  | zero => intro y _; rfl
  | succ m ih =>
    intro y h
    simp only [red]
    rw [st_small (Nat.lt_of_lt_of_le h (Nat.pow_le_pow_right (by decide) (by omega))), ih h]
theorem D_top (m : Nat) : (D <<< m).testBit (31 + m) = true := by
  rw [Nat.testBit_shiftLeft]
  simp only [show 31 + m ≥ m by omega, decide_true, Bool.true_and, show 31 + m - m = 31 by omega]
  decide
theorem D_lt (m : Nat) : D <<< m < 2 ^ (32 + m) := by
  rw [Nat.shiftLeft_eq, Nat.pow_add]
  exact Nat.mul_lt_mul_of_pos_right (by decide) (Nat.two_pow_pos m)
theorem bit_of_lt {y n i : Nat} (h : y < 2 ^ n) (hi : n ≤ i) : y.testBit i = false :=
  Nat.testBit_lt_two_pow (Nat.lt_of_lt_of_le h (Nat.pow_le_pow_right (by decide) hi))
theorem lt_of_bits {y n : Nat} (h : ∀ i, n ≤ i → y.testBit i = false) : y < 2 ^ n := Nat.lt_pow_two_of_testBit y h
theorem st_lt {m y : Nat} (h : y < 2 ^ (32 + m)) : st (31 + m) y < 2 ^ (31 + m) := by
  unfold st
  refine lt_of_bits (fun i hi => ?_)
  by_cases e : i = 31 + m
  · subst e
    cases hy : y.testBit (31 + m)
    · simpa using hy
    · simp only [if_true]
      rw [Nat.testBit_xor, hy, show 31 + m - 31 = m by omega, D_top]
      rfl
  · have hi2 : 32 + m ≤ i := by omega
    cases hy : y.testBit (31 + m)
    · simpa using bit_of_lt h hi2
    · simp only [if_true]
      rw [Nat.testBit_xor, bit_of_lt h hi2, show 31 + m - 31 = m by omega, bit_of_lt (D_lt m) hi2]
      rfl
theorem red_lt (m : Nat) : ∀ {y : Nat}, y < 2 ^ (31 + m) → red m y < 2 ^ 31 := by
  induction m with
  | zero => intro y h; exact h
  | succ m ih => intro y h; simp only [red]; exact ih (st_lt (by rw [show 32 + m = 31 + (m + 1) by omega]; exact h))
def P (f b : Nat) : Nat := red 33 ((f <<< 8) ^^^ b)
def W : Nat → List Nat → Nat
  | f, [] => f
  | f, b :: l => W (P f b) l
theorem shl_xor (a b n : Nat) : (a ^^^ b) <<< n = (a <<< n) ^^^ (b <<< n) := by
  apply Nat.eq_of_testBit_eq
  intro i
  rw [Nat.testBit_shiftLeft, Nat.testBit_xor, Nat.testBit_xor, Nat.testBit_shiftLeft, Nat.testBit_shiftLeft]
  cases decide (i ≥ n) <;> simp
theorem P_xor (f g b c : Nat) : P (f ^^^ g) (b ^^^ c) = P f b ^^^ P g c := by
  unfold P
  rw [shl_xor, ← red_xor]
  congr 1
  ac_rfl
theorem W_xor (l : List Nat) : ∀ f g : Nat, W (f ^^^ g) l = W f (List.replicate l.length 0) ^^^ W g l := by
  induction l with
  | nil => intro f g; rfl
  | cons b l ih =>
    intro f g
    simp only [W, List.length_cons, List.replicate_succ]
    rw [← ih, ← P_xor]
    simp
theorem W_append (l : List Nat) : ∀ (f : Nat) (r : List Nat), W f (l ++ r) = W (W f l) r := by
  induction l with
  | nil => intro f r; rfl
  | cons b l ih => intro f r; simp only [List.cons_append, W]; rw [ih]
theorem shl8_lt {f : Nat} (h : f < 2 ^ 31) {b : Nat} (hb : b < 256) : (f <<< 8) ^^^ b < 2 ^ 39 := by
  refine Nat.xor_lt_two_pow ?_ (by omega)
  rw [Nat.shiftLeft_eq]; omega
theorem P_lt {f b : Nat} (h : f < 2 ^ 31) (hb : b < 256) : P f b < 2 ^ 31 :=
  red_lt 33 (Nat.lt_of_lt_of_le (shl8_lt h hb) (Nat.pow_le_pow_right (by decide) (by decide)))
theorem W_lt (l : List Nat) : ∀ {f : Nat}, f < 2 ^ 31 → (∀ b ∈ l, b < 256) → W f l < 2 ^ 31 := by
  induction l with
  | nil => intro f h _; exact h
  | cons b l ih => intro f h hb; exact ih (P_lt h (hb b (List.mem_cons_self ..))) (fun c hc => hb c (List.mem_cons_of_mem _ hc))
theorem P_zero {b : Nat} (hb : b < 256) : P 0 b = b := by
  unfold P
  rw [show (0 : Nat) <<< 8 = 0 by rfl, Nat.zero_xor]
  exact red_id 33 (by omega)
theorem roll (b0 b1 : Nat) (l : List Nat) (h0 : b0 < 256) : P (W 0 (b0 :: l)) b1 ^^^ W b0 (List.replicate (l.length + 1) 0) = W 0 (l ++ [b1]) := by
  have h : P (W 0 (b0 :: l)) b1 = W b0 (l ++ [b1]) := by
    rw [W_append]
    simp only [W]
    rw [P_zero h0]
  rw [h, show b0 = b0 ^^^ 0 by simp, W_xor]
  simp only [List.length_append, List.length_cons, List.length_nil, Nat.xor_zero]
  rw [show W b0 (List.replicate (l.length + (0 + 1)) 0) ^^^ W 0 (l ++ [b1]) ^^^ W b0 (List.replicate (l.length + 1) 0) = W 0 (l ++ [b1]) ^^^ (W b0 (List.replicate (l.length + 1) 0) ^^^ W b0 (List.replicate (l.length + 1) 0)) by ac_rfl]
  simp
theorem push_split {f b : Nat} (h : f < 2 ^ 31) (hb : b < 256) : P f b = (((f <<< 8) ^^^ b) % 2 ^ 31) ^^^ red 33 ((((f <<< 8) ^^^ b) / 2 ^ 31) <<< 31) := by
  unfold P
  generalize he : (f <<< 8) ^^^ b = x
  have hx : x % 2 ^ 31 ^^^ ((x / 2 ^ 31) <<< 31) = x := by
    apply Nat.eq_of_testBit_eq
    intro i
    rw [Nat.testBit_xor, Nat.testBit_mod_two_pow, Nat.testBit_shiftLeft, Nat.testBit_div_two_pow]
    by_cases hi : i < 31
    · simp [hi, show ¬ (31 ≤ i) by omega]
    · simp [hi, show 31 ≤ i by omega, show 31 + (i - 31) = i by omega]
  have h2 := red_xor 33 (x % 2 ^ 31) ((x / 2 ^ 31) <<< 31)
  rw [hx, red_id 33 (Nat.mod_lt _ (by decide))] at h2
  exact h2
end Go.Proofs.Ytjjbofbkpmabbaa.RabA
