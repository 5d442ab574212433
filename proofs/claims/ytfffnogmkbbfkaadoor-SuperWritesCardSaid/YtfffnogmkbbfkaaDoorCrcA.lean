namespace Go.Proofs.YtfffnogmkbbfkaaDoor.CrcA
def T (c : Nat) : Nat := (c / 2) ^^^ (if c % 2 = 1 then 3988292384 else 0)
def Tn : Nat → Nat → Nat
  | 0, c => c
  | n + 1, c => Tn n (T c)
def F : Nat → List Nat → Nat
  | c, [] => c
  | c, x :: xs => F (Tn 8 (c ^^^ x)) xs
def le : List Nat → Nat
  | [] => 0
  | x :: xs => x ^^^ (256 * le xs)
theorem T_lt {c : Nat} (h : c < 4294967296) : T c < 4294967296 := by
  unfold T
  have h1 : c / 2 < 2 ^ 32 := by omega
  have h2 : (if c % 2 = 1 then 3988292384 else 0) < 2 ^ 32 := by split <;> decide
  exact Nat.xor_lt_two_pow h1 h2
theorem Tn_lt (n : Nat) : ∀ {c : Nat}, c < 4294967296 → Tn n c < 4294967296 := by
  induction n with
  | zero => intro c h; exact h
  | succ n ih => intro c h; exact ih (T_lt h)
theorem xor_byte_lt {c x : Nat} (hc : c < 4294967296) (hx : x < 256) : c ^^^ x < 4294967296 :=
  Nat.xor_lt_two_pow (n := 32) hc (by omega)
theorem F_lt (xs : List Nat) : ∀ {c : Nat}, c < 4294967296 → (∀ x ∈ xs, x < 256) → F c xs < 4294967296 := by
  induction xs with
  | nil => intro c h _; exact h
  | cons x xs ih =>
    intro c h hx
    exact ih (Tn_lt 8 (xor_byte_lt h (hx x (by simp)))) (fun y hy => hx y (by simp [hy]))
def bytes4 (s : Nat) : List Nat := [s % 256, s / 256 % 256, s / 65536 % 256, s / 16777216 % 256]
theorem xor_high {a b : Nat} (h : a < 256) : a ^^^ (256 * b) = a + 256 * b := by
  have := Nat.two_pow_add_eq_or_of_lt (i := 8) (b := a) h b
  have e : a ^^^ (256 * b) = a ||| (256 * b) := by
    apply Nat.eq_of_testBit_eq
    intro i
    have h256 : 256 * b = b <<< 8 := by rw [Nat.shiftLeft_eq]; omega
    rw [Nat.testBit_xor, Nat.testBit_or, h256, Nat.testBit_shiftLeft]
    by_cases hi : i < 8
    · have : ¬ (8 ≤ i) := by omega
      simp [this]
    · have : a.testBit i = false := Nat.testBit_lt_two_pow (Nat.lt_of_lt_of_le h (by
        have : 2 ^ 8 ≤ 2 ^ i := Nat.pow_le_pow_right (by decide) (by omega)
        exact this))
      simp [this]
  rw [e, Nat.or_comm]
  have e2 : 256 * b = 2 ^ 8 * b := rfl
  rw [e2, ← this]
  omega
theorem le_cons {x : Nat} (h : x < 256) (xs : List Nat) : le (x :: xs) = x + 256 * le xs := by
  show x ^^^ (256 * le xs) = _
  exact xor_high h
theorem le_inj (xs : List Nat) : ∀ ys : List Nat, xs.length = ys.length → (∀ x ∈ xs, x < 256) → (∀ y ∈ ys, y < 256) → le xs = le ys → xs = ys := by
  induction xs with
  | nil => intro ys h _ _ _; simp at h; exact (List.eq_nil_of_length_eq_zero h.symm).symm
  | cons x xs ih =>
    intro ys h hx hy he
    obtain ⟨y, ys, rfl⟩ := List.exists_cons_of_length_eq_add_one h.symm
    have h1 := hx x (by simp)
    have h2 := hy y (by simp)
    rw [le_cons h1, le_cons h2] at he
    have : x = y := by omega
    subst this
    rw [ih ys (by simpa using h) (fun z hz => hx z (by simp [hz])) (fun z hz => hy z (by simp [hz])) (by omega)]
theorem bytes4_lt (s : Nat) : ∀ x ∈ bytes4 s, x < 256 := by
  intro x hx
  simp only [bytes4, List.mem_cons, List.not_mem_nil, or_false] at hx
  omega
def bytes (b : List Nat) : List Nat := b ++ bytes4 (4294967295 ^^^ F 4294967295 b)
theorem bytes_lt {b : List Nat} (hb : ∀ x ∈ b, x < 256) : ∀ x ∈ bytes b, x < 256 := by
  intro x hx
  rcases List.mem_append.1 hx with h | h
  · exact hb x h
  · exact bytes4_lt _ x h
theorem bytes_length (b : List Nat) : (bytes b).length = b.length + 4 := by simp [bytes, bytes4]
end Go.Proofs.YtfffnogmkbbfkaaDoor.CrcA
