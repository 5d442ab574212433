import Derived.Lib.BitFns
namespace Go.Proofs.YtigbmfogfgbmfaaDoor.LebA
def D : Nat → Nat → List Nat
  | 0, _ => []
  | 1, x => [x]
  | m + 2, x => (x % 128 + 128) :: D (m + 1) (x / 128)
def G : Nat → Nat → List Nat
  | 0, _ => []
  | i + 1, x => (x % 128 + 128) :: G i (x / 128)
def Fit (m x : Nat) : Prop := 1 ≤ m ∧ x < 128 ^ m ∧ (m = 1 ∨ 128 ^ (m - 1) ≤ x)
theorem D_length (m : Nat) : ∀ x, (D m x).length = m := by
  induction m with
  | zero => intro x; rfl
  | succ m ih =>
    intro x
    cases m with
    | zero => rfl
    | succ m => simp [D, ih]
theorem G_length (i : Nat) : ∀ x, (G i x).length = i := by
  induction i with
  | zero => intro x; rfl
  | succ i ih => intro x; simp [G, ih]
theorem G_snoc (i : Nat) : ∀ x, G (i + 1) x = G i x ++ [x / 128 ^ i % 128 + 128] := by
  induction i with
  | zero => intro x; simp [G]
  | succ i ih =>
    intro x
    have h := ih (x / 128)
    rw [G, h]
    show _ = (x % 128 + 128) :: G i (x / 128) ++ _
    rw [List.cons_append, Nat.div_div_eq_div_mul, Nat.pow_succ, Nat.mul_comm 128 (128 ^ i)]
theorem D_snoc (m : Nat) : ∀ x, D (m + 1) x = G m x ++ [x / 128 ^ m] := by
  induction m with
  | zero => intro x; simp [D, G]
  | succ m ih =>
    intro x
    have h := ih (x / 128)
    rw [D, h]
    show _ = (x % 128 + 128) :: G m (x / 128) ++ _
    rw [List.cons_append, Nat.div_div_eq_div_mul, Nat.pow_succ, Nat.mul_comm 128 (128 ^ m)]
theorem pow_pos' (m : Nat) : 0 < 128 ^ m := Nat.pow_pos (by decide)
theorem pow7 (i : Nat) : 2 ^ (7 * i) = 128 ^ i := by rw [Nat.pow_mul]
theorem Fit.mono {m m' x y : Nat} (h : Fit m x) (h' : Fit m' y) (hxy : x ≤ y) : m ≤ m' := by
  rcases Nat.lt_or_ge m' m with hlt | hge
  · rcases h.2.2 with h1 | h1
    · have := h'.1; omega
    · have h2 : 128 ^ m' ≤ 128 ^ (m - 1) := Nat.pow_le_pow_right (by decide) (by omega)
      have := h'.2.1
      omega
  · exact hge
def sz (x : Nat) : Nat := max 1 ((Lib.bitLen x + 6) / 7)
theorem bitLen_lt (f : Nat) : ∀ x, x < 2 ^ f → x < 2 ^ Lib.bitLenAux f x := by
  induction f with
  | zero => intro x h; simpa [Lib.bitLenAux] using h
  | succ f ih =>
    intro x h
    simp only [Lib.bitLenAux]
    split
    · subst_vars; simp
    · rename_i h0
      have := ih (x / 2) (by rw [Nat.div_lt_iff_lt_mul (by decide)]; rw [Nat.pow_succ] at h; exact h)
      rw [Nat.add_comm 1, Nat.pow_succ]
      omega
theorem bitLen_ge (f : Nat) : ∀ x, x ≠ 0 → x < 2 ^ f → 2 ^ (Lib.bitLenAux f x - 1) ≤ x := by
  induction f with
  | zero => intro x h0 h; simp at h; omega
  | succ f ih =>
    intro x h0 h
    simp only [Lib.bitLenAux]
    rw [if_neg h0, Nat.add_comm 1, Nat.add_sub_cancel]
    have hf : x / 2 < 2 ^ f := by rw [Nat.div_lt_iff_lt_mul (by decide)]; rw [Nat.pow_succ] at h; exact h
    by_cases h2 : x / 2 = 0
    · rw [h2]
      have : Lib.bitLenAux f 0 = 0 := by cases f <;> simp [Lib.bitLenAux]
      rw [this]; simp; omega
    · have h3 := ih (x / 2) h2 hf
      have h4 : Lib.bitLenAux f (x / 2) ≠ 0 := by
        intro e
        have := bitLen_lt f (x / 2) hf
        rw [e] at this
        simp at this
        omega
      obtain ⟨b, hb⟩ : ∃ b, Lib.bitLenAux f (x / 2) = b + 1 := ⟨Lib.bitLenAux f (x / 2) - 1, by omega⟩
      rw [hb] at h3 ⊢
      rw [Nat.add_sub_cancel] at h3
      rw [Nat.pow_succ]
      omega
theorem sz_le {x : Nat} (hx : x < 18446744073709551616) : sz x ≤ 10 := by
  have := Lib.bitLen_le x 64 (Nat.le_refl _) hx
  unfold sz
  omega
theorem sz_fit {x : Nat} (hx : x < 18446744073709551616) : Fit (sz x) x := by
  have h1 : x < 2 ^ Lib.bitLen x := bitLen_lt 64 x hx
  have hb := Lib.bitLen_le x 64 (Nat.le_refl _) hx
  refine ⟨by unfold sz; omega, ?_, ?_⟩
  · refine Nat.lt_of_lt_of_le h1 ?_
    rw [← pow7]
    refine Nat.pow_le_pow_right (by decide) ?_
    unfold sz
    omega
  · by_cases hs : sz x = 1
    · exact .inl hs
    · right
      have h0 : x ≠ 0 := by
        intro e
        subst e
        exact hs (by decide)
      have h2 : 2 ^ (Lib.bitLen x - 1) ≤ x := bitLen_ge 64 x h0 hx
      refine Nat.le_trans ?_ h2
      rw [← pow7]
      refine Nat.pow_le_pow_right (by decide) ?_
      unfold sz at hs ⊢
      omega
def E : Nat → Nat → List Nat
  | 0, x => [x]
  | n + 1, x => if x < 128 then [x] else (x % 128 + 128) :: E n (x / 128)
theorem Fit.tail {m x : Nat} (h : Fit (m + 2) x) : Fit (m + 1) (x / 128) := by
  obtain ⟨_, h2, h3⟩ := h
  refine ⟨by omega, ?_, ?_⟩
  · rw [Nat.div_lt_iff_lt_mul (by decide)]; rw [Nat.pow_succ] at h2; exact h2
  · rcases h3 with h3 | h3
    · omega
    · by_cases hm : m = 0
      · left; omega
      · right
        rw [Nat.le_div_iff_mul_le (by decide)]
        have e : m + 2 - 1 = (m + 1 - 1) + 1 := by omega
        rw [e, Nat.pow_succ] at h3
        exact h3
def R : List Nat → Nat → Nat → Nat × Nat × Nat
  | [], _, _ => (0, 0, 20)
  | c :: cs, i, a =>
    if i = 9 ∧ 1 < c then (0, 0, 21)
    else if c < 128 then (if 0 < i ∧ c = 0 then (0, 0, 21) else (a + c % 128 * 128 ^ i, i + 1, 0))
    else R cs (i + 1) (a + c % 128 * 128 ^ i)
end Go.Proofs.YtigbmfogfgbmfaaDoor.LebA
