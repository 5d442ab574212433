namespace Go.Proofs.YtfffnogmkbbfkaaDoor.CrcA
def T (c : Nat) : Nat := (c / 2) ^^^ (if c % 2 = 1 then 3988292384 else 0)
def Tn : Nat → Nat → Nat
  | 0, c => c
  | n + 1, c => Tn n (T c)
def F : Nat → List Nat → Nat
  | c, [] => c
  | c, x :: xs => F (Tn 8 (c ^^^ x)) xs
def le : List Nat → Nat
  | [] => 0
  | x :: xs => x ^^^ (256 * le xs)
theorem xor_mod2 (a b : Nat) : (a ^^^ b) % 2 = (a % 2 + b % 2) % 2 := by
  have h : (a ^^^ b).testBit 0 = (a.testBit 0 ^^ b.testBit 0) := Nat.testBit_xor a b 0
  rw [Nat.testBit_zero, Nat.testBit_zero, Nat.testBit_zero] at h
  rcases Nat.mod_two_eq_zero_or_one a with ha | ha <;> rcases Nat.mod_two_eq_zero_or_one b with hb | hb <;> simp [ha, hb] at h ⊢ <;> first | exact h | (rcases Nat.mod_two_eq_zero_or_one (a ^^^ b) with hc | hc <;> simp_all)
theorem xor_div2 (a b : Nat) : (a ^^^ b) / 2 = a / 2 ^^^ b / 2 := Nat.xor_div_two
theorem T_xor (a b : Nat) : T (a ^^^ b) = T a ^^^ T b := by
  unfold T
  rw [xor_mod2, xor_div2]
  have e1 : ∀ x y p : Nat, x ^^^ y ^^^ (p ^^^ p) = x ^^^ y := fun x y p => by simp
  rcases Nat.mod_two_eq_zero_or_one a with ha | ha <;> rcases Nat.mod_two_eq_zero_or_one b with hb | hb <;> simp [ha, hb]
  · ac_rfl
  · ac_rfl
  · have : a / 2 ^^^ 3988292384 ^^^ (b / 2 ^^^ 3988292384) = a / 2 ^^^ b / 2 ^^^ (3988292384 ^^^ 3988292384) := by ac_rfl
    rw [this]; simp
theorem Tn_xor (n : Nat) : ∀ a b : Nat, Tn n (a ^^^ b) = Tn n a ^^^ Tn n b := by
  induction n with
  | zero => intro a b; rfl
  | succ n ih => intro a b; simp only [Tn]; rw [T_xor, ih]
theorem Tn_add (m : Nat) : ∀ n c : Nat, Tn (m + n) c = Tn n (Tn m c) := by
  induction m with
  | zero => intro n c; simp [Tn]
  | succ m ih => intro n c; rw [Nat.add_right_comm]; simp only [Tn]; rw [ih]
theorem T_even (a : Nat) : T (2 * a) = a := by
  unfold T
  rw [if_neg (by omega)]
  simp
theorem Tn_shift (n : Nat) : ∀ a : Nat, Tn n (a <<< n) = a := by
  induction n with
  | zero => intro a; rfl
  | succ n ih =>
    intro a
    have : a <<< (n + 1) = 2 * (a <<< n) := by rw [Nat.shiftLeft_succ]
    rw [this]
    simp only [Tn]
    rw [T_even, ih]
theorem T_lt {c : Nat} (h : c < 4294967296) : T c < 4294967296 := by
  unfold T
  have h1 : c / 2 < 2 ^ 32 := by omega
  have h2 : (if c % 2 = 1 then 3988292384 else 0) < 2 ^ 32 := by split <;> decide
  exact Nat.xor_lt_two_pow h1 h2
theorem Tn_lt (n : Nat) : ∀ {c : Nat}, c < 4294967296 → Tn n c < 4294967296 := by
  induction n with
  | zero => intro c h; exact h
  | succ n ih => intro c h; exact ih (T_lt h)
theorem T_pos {c : Nat} (h : c < 4294967296) (h0 : c ≠ 0) : T c ≠ 0 := by
  unfold T
  split
  · intro e
    have h1 : c / 2 = 3988292384 := by
      have : c / 2 ^^^ 3988292384 ^^^ 3988292384 = 0 ^^^ 3988292384 := by rw [e]
      simpa [Nat.xor_assoc] using this
    omega
  · intro e
    simp at e
    omega
theorem Tn_pos (n : Nat) : ∀ {c : Nat}, c < 4294967296 → c ≠ 0 → Tn n c ≠ 0 := by
  induction n with
  | zero => intro c _ h; exact h
  | succ n ih => intro c h h0; exact ih (T_lt h) (T_pos h h0)
theorem Tn_inj (n : Nat) {a b : Nat} (ha : a < 4294967296) (hb : b < 4294967296) (h : Tn n a = Tn n b) : a = b := by
  have hx : Tn n (a ^^^ b) = 0 := by rw [Tn_xor, h]; simp
  have hl : a ^^^ b < 2 ^ 32 := Nat.xor_lt_two_pow ha hb
  by_cases h0 : a ^^^ b = 0
  · have : a ^^^ b ^^^ b = 0 ^^^ b := by rw [h0]
    simpa [Nat.xor_assoc] using this
  · exact absurd hx (Tn_pos n hl h0)
theorem xor_byte_lt {c x : Nat} (hc : c < 4294967296) (hx : x < 256) : c ^^^ x < 4294967296 :=
  Nat.xor_lt_two_pow (n := 32) hc (by omega)
theorem F_lt (xs : List Nat) : ∀ {c : Nat}, c < 4294967296 → (∀ x ∈ xs, x < 256) → F c xs < 4294967296 := by
  induction xs with
  | nil => intro c h _; exact h
  | cons x xs ih =>
    intro c h hx
    exact ih (Tn_lt 8 (xor_byte_lt h (hx x (by simp)))) (fun y hy => hx y (by simp [hy]))
theorem F_append (xs ys : List Nat) : ∀ c, F c (xs ++ ys) = F (F c xs) ys := by
  induction xs with
  | nil => intro c; rfl
  | cons x xs ih => intro c; simp only [List.cons_append, F]; rw [ih]
theorem F_le (xs : List Nat) : ∀ c, F c xs = Tn (8 * xs.length) (c ^^^ le xs) := by
  induction xs with
  | nil => intro c; simp [F, le, Tn]
  | cons x xs ih =>
    intro c
    have e : 8 * (x :: xs).length = 8 + 8 * xs.length := by simp; omega
    rw [e, Tn_add]
    simp only [F, le]
    have h2 : c ^^^ (x ^^^ 256 * le xs) = (c ^^^ x) ^^^ ((le xs) <<< 8) := by
      rw [Nat.shiftLeft_eq, Nat.mul_comm (le xs) (2 ^ 8), ← Nat.xor_assoc]
    rw [h2, Tn_xor 8 (c ^^^ x) (le xs <<< 8), Tn_shift, ih]
def bytes4 (s : Nat) : List Nat := [s % 256, s / 256 % 256, s / 65536 % 256, s / 16777216 % 256]
theorem xor_high {a b : Nat} (h : a < 256) : a ^^^ (256 * b) = a + 256 * b := by
  have := Nat.two_pow_add_eq_or_of_lt (i := 8) (b := a) h b
  have e : a ^^^ (256 * b) = a ||| (256 * b) := by
    apply Nat.eq_of_testBit_eq
    intro i
    have h256 : 256 * b = b <<< 8 := by rw [Nat.shiftLeft_eq]; omega
    rw [Nat.testBit_xor, Nat.testBit_or, h256, Nat.testBit_shiftLeft]
    by_cases hi : i < 8
    · have : ¬ (8 ≤ i) := by omega
      simp [this]
    · have : a.testBit i = false := Nat.testBit_lt_two_pow (Nat.lt_of_lt_of_le h (by
        have : 2 ^ 8 ≤ 2 ^ i := Nat.pow_le_pow_right (by decide) (by omega)
        exact this))
      simp [this]
  rw [e, Nat.or_comm]
  have e2 : 256 * b = 2 ^ 8 * b := rfl
  rw [e2, ← this]
  omega
theorem le_cons {x : Nat} (h : x < 256) (xs : List Nat) : le (x :: xs) = x + 256 * le xs := by
  show x ^^^ (256 * le xs) = _
  exact xor_high h
theorem le_inj (xs : List Nat) : ∀ ys : List Nat, xs.length = ys.length → (∀ x ∈ xs, x < 256) → (∀ y ∈ ys, y < 256) → le xs = le ys → xs = ys := by
  induction xs with
  | nil => intro ys h _ _ _; simp at h; exact (List.eq_nil_of_length_eq_zero h.symm).symm
  | cons x xs ih =>
    intro ys h hx hy he
    obtain ⟨y, ys, rfl⟩ := List.exists_cons_of_length_eq_add_one h.symm
    have h1 := hx x (by simp)
    have h2 := hy y (by simp)
    rw [le_cons h1, le_cons h2] at he
    have : x = y := by omega
    subst this
    rw [ih ys (by simpa using h) (fun z hz => hx z (by simp [hz])) (fun z hz => hy z (by simp [hz])) (by omega)]
theorem bytes4_lt (s : Nat) : ∀ x ∈ bytes4 s, x < 256 := by
  intro x hx
  simp only [bytes4, List.mem_cons, List.not_mem_nil, or_false] at hx
  omega
theorem le_bytes4 {s : Nat} (h : s < 4294967296) : le (bytes4 s) = s := by
  unfold bytes4
  rw [le_cons (by omega), le_cons (by omega), le_cons (by omega), le_cons (by omega)]
  simp only [le]
  omega
theorem le4 {d : List Nat} (hd : d.length = 4) (hb : ∀ x ∈ d, x < 256) : le d < 4294967296 := by
  obtain ⟨a, d, rfl⟩ := List.exists_cons_of_length_eq_add_one hd
  obtain ⟨b, d, rfl⟩ := List.exists_cons_of_length_eq_add_one (n := 2) (by simpa using hd)
  obtain ⟨c, d, rfl⟩ := List.exists_cons_of_length_eq_add_one (n := 1) (by simpa using hd)
  obtain ⟨e, d, rfl⟩ := List.exists_cons_of_length_eq_add_one (n := 0) (by simpa using hd)
  obtain rfl : d = [] := by simpa using hd
  have h1 := hb a (by simp)
  have h2 := hb b (by simp)
  have h3 := hb c (by simp)
  have h4 := hb e (by simp)
  rw [le_cons h1, le_cons h2, le_cons h3, le_cons h4]
  simp only [le]
  omega
def right (y : List Nat) : Bool := decide (4 ≤ y.length) && (y.drop (y.length - 4) == bytes4 (4294967295 ^^^ F 4294967295 (y.take (y.length - 4))))
def bytes (b : List Nat) : List Nat := b ++ bytes4 (4294967295 ^^^ F 4294967295 b)
theorem right_iff {y : List Nat} (h4 : 4 ≤ y.length) (hb : ∀ x ∈ y, x < 256) : right y = true ↔ F 4294967295 y = Tn 32 4294967295 := by
  obtain ⟨y1, d, rfl, hd⟩ : ∃ y1 d : List Nat, y = y1 ++ d ∧ d.length = 4 := ⟨y.take (y.length - 4), y.drop (y.length - 4), by simp, by simp; omega⟩
  have hl : (y1 ++ d).length - 4 = y1.length := by simp; omega
  have hb1 : ∀ x ∈ y1, x < 256 := fun x hx => hb x (by simp [hx])
  have hbd : ∀ x ∈ d, x < 256 := fun x hx => hb x (by simp [hx])
  have hs : F 4294967295 y1 < 4294967296 := F_lt y1 (by decide) hb1
  have hx : 4294967295 ^^^ F 4294967295 y1 < 4294967296 := Nat.xor_lt_two_pow (n := 32) (by decide) hs
  have hld := le4 hd hbd
  have hr : right (y1 ++ d) = true ↔ d = bytes4 (4294967295 ^^^ F 4294967295 y1) := by
    unfold right
    rw [hl]
    simp
    omega
  rw [hr, F_append, F_le d, hd]
  constructor
  · intro h
    rw [h, le_bytes4 hx]
    have : F 4294967295 y1 ^^^ (4294967295 ^^^ F 4294967295 y1) = 4294967295 := by
      rw [Nat.xor_comm 4294967295, ← Nat.xor_assoc]; simp
    rw [this]
  · intro h
    have h2 := Tn_inj 32 (Nat.xor_lt_two_pow (n := 32) hs hld) (by decide) h
    have h3 : le d = 4294967295 ^^^ F 4294967295 y1 := by
      have e : le d = (F 4294967295 y1 ^^^ le d) ^^^ F 4294967295 y1 := by
        rw [Nat.xor_comm (F 4294967295 y1), Nat.xor_assoc]; simp
      rw [e, h2]
    apply le_inj d _ (by rw [hd]; rfl) hbd (bytes4_lt _)
    rw [h3, le_bytes4 hx]
theorem bytes_lt {b : List Nat} (hb : ∀ x ∈ b, x < 256) : ∀ x ∈ bytes b, x < 256 := by
  intro x hx
  rcases List.mem_append.1 hx with h | h
  · exact hb x h
  · exact bytes4_lt _ x h
theorem bytes_length (b : List Nat) : (bytes b).length = b.length + 4 := by simp [bytes, bytes4]
theorem right_bytes {b : List Nat} : right (bytes b) = true := by
  unfold right
  have hl : (bytes b).length - 4 = b.length := by rw [bytes_length]; omega
  rw [hl]
  simp [bytes_length]
  unfold bytes
  simp
theorem right_burst {x y : List Nat} {w from_ : Nat} (hl : y.length = x.length) (h4 : 4 ≤ x.length) (hx : ∀ z ∈ x, z < 256) (hy : ∀ z ∈ y, z < 256) (hf : from_ < 8 * x.length)
    (hw : w < 4294967296) (he : le y = le x ^^^ (w <<< from_)) (hr : right x = true) : right y = (x == y) := by
  have h1 := (right_iff h4 hx).1 hr
  have h2 := right_iff (by omega : 4 ≤ y.length) hy
  have h3 : F 4294967295 y = Tn 32 4294967295 ^^^ Tn (8 * x.length - from_) w := by
    rw [F_le, hl, he, ← Nat.xor_assoc, Tn_xor, ← F_le, h1]
    congr 1
    have e : 8 * x.length = from_ + (8 * x.length - from_) := by omega
    rw [show Tn (8 * x.length) (w <<< from_) = Tn (from_ + (8 * x.length - from_)) (w <<< from_) from by rw [← e], Tn_add, Tn_shift]
  by_cases h0 : w = 0
  · subst h0
    have : y = x := le_inj y x hl hy hx (by simpa using he)
    subst this
    simp [hr]
  · have hn : ¬ right y = true := by
      rw [h2, h3]
      intro e
      have : Tn 32 4294967295 ^^^ (Tn 32 4294967295 ^^^ Tn (8 * x.length - from_) w) = Tn 32 4294967295 ^^^ Tn 32 4294967295 := by rw [e]
      rw [← Nat.xor_assoc] at this
      simp at this
      exact Tn_pos _ hw h0 this
    have hne : ¬ x = y := by
      rintro rfl
      exact hn hr
    have : right y = false := by simpa using hn
    rw [this]
    simp [hne]
theorem le_set (xs : List Nat) : ∀ (j m : Nat), j < xs.length → le (xs.set j (xs.getD j 0 ^^^ m)) = le xs ^^^ (m <<< (8 * j)) := by
  induction xs with
  | nil => intro j m h; simp at h
  | cons x xs ih =>
    intro j m h
    cases j with
    | zero => simp [le]; ac_rfl
    | succ j =>
      simp only [List.set_cons_succ, le, List.getD_cons_succ]
      rw [ih j m (by simpa using h)]
      have e1 : ∀ a b : Nat, 256 * (a ^^^ b) = 256 * a ^^^ 256 * b := by
        intro a b
        have e := Nat.shiftLeft_xor_distrib (a := a) (b := b) (i := 8)
        simp only [Nat.shiftLeft_eq] at e
        rw [Nat.mul_comm 256, Nat.mul_comm 256 a, Nat.mul_comm 256 b]
        exact e
      rw [e1, ← Nat.xor_assoc]
      congr 1
      have : 8 * (j + 1) = 8 * j + 8 := by omega
      rw [this, Nat.shiftLeft_add, Nat.shiftLeft_eq _ 8]
      omega
end Go.Proofs.YtfffnogmkbbfkaaDoor.CrcA
