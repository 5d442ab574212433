namespace Go.Proofs.YtbnkcbfhappgnaaDoor.CrcA
def T (c : Nat) : Nat := (c / 2) ^^^ (if c % 2 = 1 then 3988292384 else 0)
def Tn : Nat → Nat → Nat
  | 0, c => c
  | n + 1, c => Tn n (T c)
def F : Nat → List Nat → Nat
  | c, [] => c
  | c, x :: xs => F (Tn 8 (c ^^^ x)) xs
theorem T_lt {c : Nat} (h : c < 4294967296) : T c < 4294967296 := by
  unfold T
  have h1 : c / 2 < 2 ^ 32 := by omega
  have h2 : (if c % 2 = 1 then 3988292384 else 0) < 2 ^ 32 := by split <;> decide
  exact Nat.xor_lt_two_pow h1 h2
theorem Tn_lt (n : Nat) : ∀ {c : Nat}, c < 4294967296 → Tn n c < 4294967296 := by
  induction n with
  | zero => intro c h; exact h
  | succ n ih => intro c h; exact ih (T_lt h)
theorem xor_byte_lt {c x : Nat} (hc : c < 4294967296) (hx : x < 256) : c ^^^ x < 4294967296 :=
  Nat.xor_lt_two_pow (n := 32) hc (by omega)
theorem F_lt (xs : List Nat) : ∀ {c : Nat}, c < 4294967296 → (∀ x ∈ xs, x < 256) → F c xs < 4294967296 := by
  induction xs with
  | nil => intro c h _; exact h
  | cons x xs ih =>
    intro c h hx
    exact ih (Tn_lt 8 (xor_byte_lt h (hx x (by simp)))) (fun y hy => hx y (by simp [hy]))
def bytes4 (s : Nat) : List Nat := [s % 256, s / 256 % 256, s / 65536 % 256, s / 16777216 % 256]
theorem bytes4_lt (s : Nat) : ∀ x ∈ bytes4 s, x < 256 := by
  intro x hx
  simp only [bytes4, List.mem_cons, List.not_mem_nil, or_false] at hx
  omega
def right (y : List Nat) : Bool := decide (4 ≤ y.length) && (y.drop (y.length - 4) == bytes4 (4294967295 ^^^ F 4294967295 (y.take (y.length - 4))))
def bytes (b : List Nat) : List Nat := b ++ bytes4 (4294967295 ^^^ F 4294967295 b)
theorem bytes_lt {b : List Nat} (hb : ∀ x ∈ b, x < 256) : ∀ x ∈ bytes b, x < 256 := by
  intro x hx
  rcases List.mem_append.1 hx with h | h
  · exact hb x h
  · exact bytes4_lt _ x h
theorem bytes_length (b : List Nat) : (bytes b).length = b.length + 4 := by simp [bytes, bytes4]
theorem right_bytes {b : List Nat} : right (bytes b) = true := by
  unfold right
  have hl : (bytes b).length - 4 = b.length := by rw [bytes_length]; omega
  rw [hl]
  simp [bytes_length]
  unfold bytes
  simp
end Go.Proofs.YtbnkcbfhappgnaaDoor.CrcA
