import Derived.Lib.BitFns
namespace Go.Proofs.YtbnkcbfhappgnaaDoor.LebA
def D : Nat → Nat → List Nat
  | 0, _ => []
  | 1, x => [x]
  | m + 2, x => (x % 128 + 128) :: D (m + 1) (x / 128)
def G : Nat → Nat → List Nat
  | 0, _ => []
  | i + 1, x => (x % 128 + 128) :: G i (x / 128)
def Fit (m x : Nat) : Prop := 1 ≤ m ∧ x < 128 ^ m ∧ (m = 1 ∨ 128 ^ (m - 1) ≤ x)
theorem D_length (m : Nat) : ∀ x, (D m x).length = m := by
  induction m with
  | zero => intro x; rfl
  | succ m ih =>
    intro x
    cases m with
    | zero => rfl
    | succ m => simp [D, ih]
theorem G_length (i : Nat) : ∀ x, (G i x).length = i := by
  induction i with
  | zero => intro x; rfl
  | succ i ih => intro x; simp [G, ih]
theorem G_snoc (i : Nat) : ∀ x, G (i + 1) x = G i x ++ [x / 128 ^ i % 128 + 128] := by
  induction i with
  | zero => intro x; simp [G]
  | succ i ih =>
    intro x
    have h := ih (x / 128)
    rw [G, h]
    show _ = (x % 128 + 128) :: G i (x / 128) ++ _
    rw [List.cons_append, Nat.div_div_eq_div_mul, Nat.pow_succ, Nat.mul_comm 128 (128 ^ i)]
theorem D_snoc (m : Nat) : ∀ x, D (m + 1) x = G m x ++ [x / 128 ^ m] := by
  induction m with
  | zero => intro x; simp [D, G]
  | succ m ih =>
    intro x
    have h := ih (x / 128)
    rw [D, h]
    show _ = (x % 128 + 128) :: G m (x / 128) ++ _
    rw [List.cons_append, Nat.div_div_eq_div_mul, Nat.pow_succ, Nat.mul_comm 128 (128 ^ m)]
theorem D_lt (m : Nat) : ∀ x, x < 128 ^ m → ∀ c ∈ D m x, c < 256 := by
  induction m with
  | zero => intro x _ c h; simp [D] at h
  | succ m ih =>
    intro x hx c h
    cases m with
    | zero =>
      simp [D] at h
      subst h
      simp at hx
      omega
    | succ m =>
      simp only [D, List.mem_cons] at h
      rcases h with rfl | h
      · omega
      · refine ih (x / 128) ?_ c h
        rw [Nat.div_lt_iff_lt_mul (by decide)]
        rw [Nat.pow_succ] at hx
        exact hx
theorem pow_pos' (m : Nat) : 0 < 128 ^ m := Nat.pow_pos (by decide)
theorem pow7 (i : Nat) : 2 ^ (7 * i) = 128 ^ i := by rw [Nat.pow_mul]
theorem Fit.mono {m m' x y : Nat} (h : Fit m x) (h' : Fit m' y) (hxy : x ≤ y) : m ≤ m' := by
  rcases Nat.lt_or_ge m' m with hlt | hge
  · rcases h.2.2 with h1 | h1
    · have := h'.1; omega
    · have h2 : 128 ^ m' ≤ 128 ^ (m - 1) := Nat.pow_le_pow_right (by decide) (by omega)
      have := h'.2.1
      omega
  · exact hge
def sz (x : Nat) : Nat := max 1 ((Lib.bitLen x + 6) / 7)
theorem bitLen_lt (f : Nat) : ∀ x, x < 2 ^ f → x < 2 ^ Lib.bitLenAux f x := by
  induction f with
  | zero => intro x h; simpa [Lib.bitLenAux] using h
  | succ f ih =>
    intro x h
    simp only [Lib.bitLenAux]
    split
    · subst_vars; simp
    · rename_i h0
      have := ih (x / 2) (by rw [Nat.div_lt_iff_lt_mul (by decide)]; rw [Nat.pow_succ] at h; exact h)
      rw [Nat.add_comm 1, Nat.pow_succ]
      omega
theorem bitLen_ge (f : Nat) : ∀ x, x ≠ 0 → x < 2 ^ f → 2 ^ (Lib.bitLenAux f x - 1) ≤ x := by
  induction f with
  | zero => intro x h0 h; simp at h; omega
  | succ f ih =>
    intro x h0 h
    simp only [Lib.bitLenAux]
    rw [if_neg h0, Nat.add_comm 1, Nat.add_sub_cancel]
    have hf : x / 2 < 2 ^ f := by rw [Nat.div_lt_iff_lt_mul (by decide)]; rw [Nat.pow_succ] at h; exact h
    by_cases h2 : x / 2 = 0
    · rw [h2]
      have : Lib.bitLenAux f 0 = 0 := by cases f <;> simp [Lib.bitLenAux]
      rw [this]; simp; omega
    · have h3 := ih (x / 2) h2 hf
      have h4 : Lib.bitLenAux f (x / 2) ≠ 0 := by
        intro e
        have := bitLen_lt f (x / 2) hf
        rw [e] at this
        simp at this
        omega
      obtain ⟨b, hb⟩ : ∃ b, Lib.bitLenAux f (x / 2) = b + 1 := ⟨Lib.bitLenAux f (x / 2) - 1, by omega⟩
      rw [hb] at h3 ⊢
      rw [Nat.add_sub_cancel] at h3
      rw [Nat.pow_succ]
      omega
theorem sz_le {x : Nat} (hx : x < 18446744073709551616) : sz x ≤ 10 := by
  have := Lib.bitLen_le x 64 (Nat.le_refl _) hx
  unfold sz
  omega
theorem sz_fit {x : Nat} (hx : x < 18446744073709551616) : Fit (sz x) x := by
  have h1 : x < 2 ^ Lib.bitLen x := bitLen_lt 64 x hx
  have hb := Lib.bitLen_le x 64 (Nat.le_refl _) hx
  refine ⟨by unfold sz; omega, ?_, ?_⟩
  · refine Nat.lt_of_lt_of_le h1 ?_
    rw [← pow7]
    refine Nat.pow_le_pow_right (by decide) ?_
    unfold sz
    omega
  · by_cases hs : sz x = 1
    · exact .inl hs
    · right
      have h0 : x ≠ 0 := by
        intro e
        subst e
        exact hs (by decide)
      have h2 : 2 ^ (Lib.bitLen x - 1) ≤ x := bitLen_ge 64 x h0 hx
      refine Nat.le_trans ?_ h2
      rw [← pow7]
      refine Nat.pow_le_pow_right (by decide) ?_
      unfold sz at hs ⊢
      omega
def E : Nat → Nat → List Nat
  | 0, x => [x]
  | n + 1, x => if x < 128 then [x] else (x % 128 + 128) :: E n (x / 128)
theorem Fit.tail {m x : Nat} (h : Fit (m + 2) x) : Fit (m + 1) (x / 128) := by
  obtain ⟨_, h2, h3⟩ := h
  refine ⟨by omega, ?_, ?_⟩
  · rw [Nat.div_lt_iff_lt_mul (by decide)]; rw [Nat.pow_succ] at h2; exact h2
  · rcases h3 with h3 | h3
    · omega
    · by_cases hm : m = 0
      · left; omega
      · right
        rw [Nat.le_div_iff_mul_le (by decide)]
        have e : m + 2 - 1 = (m + 1 - 1) + 1 := by omega
        rw [e, Nat.pow_succ] at h3
        exact h3
theorem Fit.ge {m x : Nat} (h : Fit (m + 2) x) : 128 ≤ x := by
  obtain ⟨_, _, h3⟩ := h
  rcases h3 with h3 | h3
  · omega
  · have e : m + 2 - 1 = m + 1 := by omega
    rw [e, Nat.pow_succ] at h3
    have := pow_pos' m
    have h4 : 1 * 128 ≤ 128 ^ m * 128 := Nat.mul_le_mul_right _ this
    omega
def R : List Nat → Nat → Nat → Nat × Nat × Nat
  | [], _, _ => (0, 0, 20)
  | c :: cs, i, a =>
    if i = 9 ∧ 1 < c then (0, 0, 21)
    else if c < 128 then (if 0 < i ∧ c = 0 then (0, 0, 21) else (a + c % 128 * 128 ^ i, i + 1, 0))
    else R cs (i + 1) (a + c % 128 * 128 ^ i)
theorem R_D (m : Nat) : ∀ (x i a : Nat) (rest : List Nat), Fit m x → (m = 1 → i = 0 ∨ x ≠ 0) → i + m ≤ 10 → a + x * 128 ^ i < 18446744073709551616 → R (D m x ++ rest) i a = (a + x * 128 ^ i, i + m, 0) := by
  induction m with
  | zero => intro x i a rest h; exact absurd h.1 (by omega)
  | succ m ih =>
    intro x i a rest h hz hi hs
    cases m with
    | zero =>
      have h2 := h.2.1
      simp at h2
      show R (x :: rest) i a = _
      simp only [R]
      have h9 : ¬ (i = 9 ∧ 1 < x) := by
        rintro ⟨rfl, h1⟩
        have : 2 * 128 ^ 9 ≤ x * 128 ^ 9 := Nat.mul_le_mul_right _ h1
        have e : 2 * 128 ^ 9 = 18446744073709551616 := by decide
        omega
      have hz' := hz rfl
      rw [if_neg h9, if_pos h2, if_neg (by omega), Nat.mod_eq_of_lt h2]
    | succ m =>
      show R ((x % 128 + 128) :: (D (m + 1) (x / 128) ++ rest)) i a = _
      simp only [R]
      rw [if_neg (by omega), if_neg (by omega)]
      have e1 : (x % 128 + 128) % 128 = x % 128 := by omega
      have e2 : a + x % 128 * 128 ^ i + x / 128 * 128 ^ (i + 1) = a + x * 128 ^ i := by
        rw [Nat.pow_succ, Nat.add_assoc]
        congr 1
        have : x / 128 * (128 ^ i * 128) = x / 128 * 128 * 128 ^ i := by ac_rfl
        rw [this, ← Nat.add_mul]
        congr 1
        omega
      have hg := h.ge
      rw [e1, ih (x / 128) (i + 1) (a + x % 128 * 128 ^ i) rest h.tail (fun _ => .inr (by omega)) (by omega) (by rw [e2]; exact hs), e2]
      congr 2
      omega
theorem R_cut (m : Nat) : ∀ (x i a c : Nat), c < m → i + c ≤ 9 → R ((D m x).take c) i a = (0, 0, 20) := by
  induction m with
  | zero => intro x i a c h; omega
  | succ m ih =>
    intro x i a c h hi
    cases m with
    | zero =>
      have : c = 0 := by omega
      subst this
      rfl
    | succ m =>
      cases c with
      | zero => rfl
      | succ c =>
        show R ((x % 128 + 128) :: (D (m + 1) (x / 128)).take c) i a = _
        simp only [R]
        rw [if_neg (by omega), if_neg (by omega)]
        exact ih _ _ _ c (by omega) (by omega)
theorem R_back : ∀ (l : List Nat) (i a : Nat), l.length + i ≤ 10 → (∀ c ∈ l, c < 256) →
    (∃ m x, R l i a = (a + x * 128 ^ i, i + m, 0) ∧ Fit m x ∧ (m = 1 → i = 0 ∨ x ≠ 0) ∧ m ≤ l.length ∧ l.take m = D m x ∧ i + m ≤ 10 ∧ (i + m = 10 → x < 2 * 128 ^ (m - 1))) ∨ ∃ e, R l i a = (0, 0, e) ∧ (e = 20 ∨ e = 21) := by
  intro l
  induction l with
  | nil => intro i a _ _; exact .inr ⟨20, rfl, .inl rfl⟩
  | cons c cs ih =>
    intro i a hl hc
    have hc0 := hc c (by simp)
    simp only [List.length_cons] at hl
    simp only [R]
    by_cases h9 : i = 9 ∧ 1 < c
    · rw [if_pos h9]; exact .inr ⟨21, rfl, .inr rfl⟩
    rw [if_neg h9]
    by_cases h1 : c < 128
    · rw [if_pos h1]
      by_cases h2 : 0 < i ∧ c = 0
      · rw [if_pos h2]; exact .inr ⟨21, rfl, .inr rfl⟩
      · rw [if_neg h2]
        refine .inl ⟨1, c, by rw [Nat.mod_eq_of_lt h1], ⟨by omega, by simpa using h1, .inl rfl⟩, fun _ => by omega, by simp, by simp [D], by omega, fun h => ?_⟩
        simp
        omega
    · rw [if_neg h1]
      rcases ih (i + 1) (a + c % 128 * 128 ^ i) (by omega) (fun d hd => hc d (by simp [hd])) with ⟨m, x, e, hf, hz, hm, ht, hi, hx⟩ | ⟨e, he, h⟩
      · left
        have hm1 := hf.1
        obtain ⟨m, rfl⟩ : ∃ q, m = q + 1 := ⟨m - 1, by omega⟩
        have ex : c % 128 + 128 * x = x * 128 + c % 128 := by omega
        have d1 : (c % 128 + 128 * x) / 128 = x := by omega
        have d2 : (c % 128 + 128 * x) % 128 + 128 = c := by omega
        refine ⟨m + 2, c % 128 + 128 * x, ?_, ⟨by omega, ?_, .inr ?_⟩, fun h => by omega, by simp; omega, ?_, by omega, fun h => ?_⟩
        · rw [e]
          have e2 : a + c % 128 * 128 ^ i + x * 128 ^ (i + 1) = a + (c % 128 + 128 * x) * 128 ^ i := by
            rw [Nat.pow_succ, Nat.add_assoc, Nat.add_mul]
            congr 2
            ac_rfl
          rw [e2]
          congr 2
          omega
        · have := hf.2.1
          rw [Nat.pow_succ]
          have h3 : (x + 1) * 128 ≤ 128 ^ (m + 1) * 128 := Nat.mul_le_mul_right _ this
          omega
        · show 128 ^ (m + 1) ≤ _
          rcases hf.2.2 with h3 | h3
          · have hm0 : m = 0 := by omega
            subst hm0
            have := hz rfl
            simp
            omega
          · rw [Nat.pow_succ]
            have h4 : 128 ^ m * 128 ≤ x * 128 := Nat.mul_le_mul_right _ h3
            omega
        · show c :: cs.take (m + 1) = (_ % 128 + 128) :: D (m + 1) (_ / 128)
          rw [d1, d2, ht]
        · have h3 := hx (by omega)
          simp only [Nat.add_sub_cancel] at h3
          show _ < 2 * 128 ^ (m + 1)
          rw [Nat.pow_succ]
          have h4 : (x + 1) * 128 ≤ 2 * 128 ^ m * 128 := Nat.mul_le_mul_right _ h3
          have e3 : 2 * (128 ^ m * 128) = 2 * 128 ^ m * 128 := by ac_rfl
          rw [e3]
          omega
      · exact .inr ⟨e, he, h⟩
theorem R_top {l : List Nat} (hl : l.length ≤ 10) (hc : ∀ c ∈ l, c < 256) :
    (∃ m x, R l 0 0 = (x, m, 0) ∧ Fit m x ∧ m ≤ l.length ∧ l.take m = D m x ∧ x < 18446744073709551616) ∨ ∃ e, R l 0 0 = (0, 0, e) ∧ (e = 20 ∨ e = 21) := by
  rcases R_back l 0 0 (by omega) hc with ⟨m, x, e, hf, _, hm, ht, hi, hx⟩ | h
  · refine .inl ⟨m, x, by simpa using e, hf, hm, ht, ?_⟩
    rcases Nat.lt_or_ge m 10 with h | h
    · have h1 := hf.2.1
      have h2 : 128 ^ m ≤ 128 ^ 9 := Nat.pow_le_pow_right (by decide) (by omega)
      have e : 128 ^ 9 = 9223372036854775808 := by decide
      omega
    · have hm10 : m = 10 := by omega
      subst hm10
      have := hx rfl
      have e : 2 * 128 ^ (10 - 1) = 18446744073709551616 := by decide
      omega
  · exact .inr h
end Go.Proofs.YtbnkcbfhappgnaaDoor.LebA
