import Derived.Test.YtigbmfogfgbmfaaDoorU
import Derived.Lib.ValidLaws
import Derived.Lib.DecodeN
import Derived.Test.YtigbmfogfgbmfaaDoorHx0
import Derived.Test.YtigbmfogfgbmfaaDoorHx1
import Derived.Test.YtigbmfogfgbmfaaDoorHx7
namespace Go.Proofs.YtigbmfogfgbmfaaDoor.Pure
open Go.RowKit Go.Proofs.YtigbmfogfgbmfaaDoor.Fn Go.Proofs.YtigbmfogfgbmfaaDoorW.PrintWords Go.Proofs.YtigbmfogfgbmfaaDoorW.PrintLast Go.Proofs.YtigbmfogfgbmfaaDoor.U
set_option linter.unusedVariables false
set_option linter.unusedSimpArgs false
def chkV (s : ByteArray) : Int := if s.toList = ([] : List UInt8) then 206 else if (s.size : Int) > 100 then 208 else if s.toList = ([46] : List UInt8) then 206 else if s.toList = ([46, 46] : List UInt8) then 206 else if Lib.validD s.data.toList = true then (if nmBad s s.size 0 = true then 206 else 0) else 206
theorem name_Check_eq (s : ByteArray) : name_Check.f s = some (chkV s) := rfl
def runeV (s : ByteArray) (p : Nat) : Int × Int × Bool := if (Utf8.decode s p).1 = 65533 ∧ (Utf8.decode s p).2 = 1 then (65533, 1, false) else (((Utf8.decode s p).1 : Int), ((Utf8.decode s p).2 : Int), true)
theorem bt_get (s : ByteArray) (i : Nat) (h : i < s.size) : bt s (i : Int) = ((s.get! i).toNat : Int) := by
  unfold bt
  rw [Int.toNat_natCast, dif_pos h]
  obtain ⟨bs⟩ := s
  have h' : i < bs.size := h
  have e : (⟨bs⟩ : ByteArray).get! i = bs[i] := getElem!_pos bs i h'
  rw [e]; rfl
theorem bt_w (s : ByteArray) (i : Int) : wrap64 (bt s i) = bt s i := by have := bt_range s i; exact w64 (by omega) (by omega)
section
variable (s : ByteArray) (n : Int) (least : Int)
theorem rune_end (x i : Int) (hi : ¬ i < n) : Ev (fun k => q01_Rune.l0 k s n x least i) (if x < least ∨ x > 1114111 ∨ (x ≥ 55296 ∧ x < 57344) then (65533, 1, false) else (x, n, true)) := by
  refine Ev.step (f := fun _ => some (if x < least ∨ x > 1114111 ∨ (x ≥ 55296 ∧ x < 57344) then (65533, 1, false) else (x, n, true))) (fun k => ?_) (Ev.now _)
  simp only [q01_Rune.l0]
  rw [if_neg hi]
  by_cases c1 : x < least
  · rw [if_pos c1, if_pos (.inl c1)]
  rw [if_neg c1]
  by_cases c2 : x > 1114111
  · rw [if_pos c2, if_pos (.inr (.inl c2))]
  rw [if_neg c2]
  by_cases c3 : x ≥ 55296
  · rw [if_pos c3]
    by_cases c4 : x < 57344
    · rw [if_pos c4, if_pos (.inr (.inr ⟨c3, c4⟩))]
    · rw [if_neg c4, if_neg (by omega)]
  · rw [if_neg c3, if_neg (by omega)]
theorem rune_no (x : Int) (i : Nat) (hi : (i : Int) < n) (hs : i < s.size) (hd : bt s (i : Int) < 128 ∨ bt s (i : Int) ≥ 192) : Ev (fun k => q01_Rune.l0 k s n x least (i : Int)) (65533, 1, false) := by
  refine Ev.step (f := fun _ => some (65533, 1, false)) (fun k => ?_) (Ev.now _)
  simp only [q01_Rune.l0]
  rw [if_pos hi, if_pos (by omega), if_pos (by omega), bt_w]
  by_cases c : bt s (i : Int) < 128
  · rw [if_pos c]
  · rw [if_neg c, if_pos (by omega)]
theorem rune_go (x : Int) (i : Nat) (hx : 0 ≤ x ∧ x < 4194304) (hi : (i : Int) < n) (hs : i < s.size) (h4 : i < 8) (hd : ¬ (bt s (i : Int) < 128 ∨ bt s (i : Int) ≥ 192)) {r : Int × Int × Bool} (h : Ev (fun k => q01_Rune.l0 k s n (x * 64 + bt s (i : Int) - 128) least ((i + 1 : Nat) : Int)) r) : Ev (fun k => q01_Rune.l0 k s n x least (i : Int)) r := by
  refine Ev.step (fun k => ?_) h
  have hb := bt_range s (i : Int)
  have e1 : wrap64 (x * 64) = x * 64 := w64 (by omega) (by omega)
  have e2 : wrap64 (x * 64 + bt s (i : Int)) = x * 64 + bt s (i : Int) := w64 (by omega) (by omega)
  have e3 : wrap64 (x * 64 + bt s (i : Int) - 128) = x * 64 + bt s (i : Int) - 128 := w64 (by omega) (by omega)
  have e4 : wrap64 ((i : Int) + 1) = ((i + 1 : Nat) : Int) := by rw [w64 (by omega) (by omega)]; omega
  simp only [q01_Rune.l0]
  rw [if_pos hi, if_pos (by omega), if_pos (by omega), bt_w, if_neg (by omega), if_neg (by omega), e1, e2, e3, e4]
end
theorem rune_two (s : ByteArray) (x least : Int) (hx : 0 ≤ x ∧ x < 256) : Ev (fun k => q01_Rune.j2 k s 2 x least) (if s.size < 2 ∨ (bt s 1 < 128 ∨ bt s 1 ≥ 192) ∨ (x * 64 + bt s 1 - 128 < least ∨ x * 64 + bt s 1 - 128 > 1114111 ∨ (x * 64 + bt s 1 - 128 ≥ 55296 ∧ x * 64 + bt s 1 - 128 < 57344)) then (65533, 1, false) else (x * 64 + bt s 1 - 128, 2, true)) := by
  by_cases c0 : s.size < 2
  · rw [if_pos (.inl c0)]
    refine Ev.step (f := fun _ => some (65533, 1, false)) (fun k => ?_) (Ev.now _)
    simp only [q01_Rune.j2]
    rw [if_pos (by omega)]
  refine Ev.step (f := fun k => q01_Rune.l0 k s 2 x least ((1 : Nat) : Int)) (fun k => ?_) ?_
  · simp only [q01_Rune.j2]
    rw [if_neg (by omega)]; rfl
  by_cases c1 : bt s 1 < 128 ∨ bt s 1 ≥ 192
  · rw [if_pos (.inr (.inl c1))]
    exact rune_no s 2 least x 1 (by decide) (by omega) c1
  refine rune_go s 2 least x 1 (by omega) (by decide) (by omega) (by decide) c1 ?_
  have h := rune_end s 2 least (x * 64 + bt s ((1 : Nat) : Int) - 128) ((1 + 1 : Nat) : Int) (by decide)
  rw [show bt s ((1 : Nat) : Int) = bt s 1 from rfl] at h ⊢
  by_cases c2 : (x * 64 + bt s 1 - 128 < least ∨ x * 64 + bt s 1 - 128 > 1114111 ∨ (x * 64 + bt s 1 - 128 ≥ 55296 ∧ x * 64 + bt s 1 - 128 < 57344))
  · rw [if_pos c2] at h
    rw [if_pos (.inr (.inr c2))]; exact h
  · rw [if_neg c2] at h
    rw [if_neg (by omega)]; exact h
theorem rune_three (s : ByteArray) (x least : Int) (hx : 0 ≤ x ∧ x < 256) : Ev (fun k => q01_Rune.j2 k s 3 x least) (if s.size < 3 ∨ (bt s 1 < 128 ∨ bt s 1 ≥ 192) ∨ (bt s 2 < 128 ∨ bt s 2 ≥ 192) ∨ ((x * 64 + bt s 1 - 128) * 64 + bt s 2 - 128 < least ∨ (x * 64 + bt s 1 - 128) * 64 + bt s 2 - 128 > 1114111 ∨ ((x * 64 + bt s 1 - 128) * 64 + bt s 2 - 128 ≥ 55296 ∧ (x * 64 + bt s 1 - 128) * 64 + bt s 2 - 128 < 57344)) then (65533, 1, false) else ((x * 64 + bt s 1 - 128) * 64 + bt s 2 - 128, 3, true)) := by
  have hb1 := bt_range s 1
  by_cases c0 : s.size < 3
  · rw [if_pos (.inl c0)]
    refine Ev.step (f := fun _ => some (65533, 1, false)) (fun k => ?_) (Ev.now _)
    simp only [q01_Rune.j2]
    rw [if_pos (by omega)]
  refine Ev.step (f := fun k => q01_Rune.l0 k s 3 x least ((1 : Nat) : Int)) (fun k => ?_) ?_
  · simp only [q01_Rune.j2]
    rw [if_neg (by omega)]; rfl
  by_cases c1 : bt s 1 < 128 ∨ bt s 1 ≥ 192
  · rw [if_pos (.inr (.inl c1))]
    exact rune_no s 3 least x 1 (by decide) (by omega) c1
  refine rune_go s 3 least x 1 (by omega) (by decide) (by omega) (by decide) c1 ?_
  rw [show bt s ((1 : Nat) : Int) = bt s 1 from rfl]
  by_cases c2 : bt s 2 < 128 ∨ bt s 2 ≥ 192
  · rw [if_pos (.inr (.inr (.inl c2)))]
    exact rune_no s 3 least _ 2 (by decide) (by omega) c2
  refine rune_go s 3 least _ 2 (by omega) (by decide) (by omega) (by decide) c2 ?_
  rw [show bt s ((2 : Nat) : Int) = bt s 2 from rfl]
  have h := rune_end s 3 least ((x * 64 + bt s 1 - 128) * 64 + bt s 2 - 128) ((2 + 1 : Nat) : Int) (by decide)
  by_cases c3 : ((x * 64 + bt s 1 - 128) * 64 + bt s 2 - 128 < least ∨ (x * 64 + bt s 1 - 128) * 64 + bt s 2 - 128 > 1114111 ∨ ((x * 64 + bt s 1 - 128) * 64 + bt s 2 - 128 ≥ 55296 ∧ (x * 64 + bt s 1 - 128) * 64 + bt s 2 - 128 < 57344))
  · rw [if_pos c3] at h
    rw [if_pos (.inr (.inr (.inr c3)))]; exact h
  · rw [if_neg c3] at h
    rw [if_neg (by omega)]; exact h
theorem rune_four (s : ByteArray) (x least : Int) (hx : 0 ≤ x ∧ x < 256) : Ev (fun k => q01_Rune.j2 k s 4 x least) (if s.size < 4 ∨ (bt s 1 < 128 ∨ bt s 1 ≥ 192) ∨ (bt s 2 < 128 ∨ bt s 2 ≥ 192) ∨ (bt s 3 < 128 ∨ bt s 3 ≥ 192) ∨ (((x * 64 + bt s 1 - 128) * 64 + bt s 2 - 128) * 64 + bt s 3 - 128 < least ∨ ((x * 64 + bt s 1 - 128) * 64 + bt s 2 - 128) * 64 + bt s 3 - 128 > 1114111 ∨ (((x * 64 + bt s 1 - 128) * 64 + bt s 2 - 128) * 64 + bt s 3 - 128 ≥ 55296 ∧ ((x * 64 + bt s 1 - 128) * 64 + bt s 2 - 128) * 64 + bt s 3 - 128 < 57344)) then (65533, 1, false) else (((x * 64 + bt s 1 - 128) * 64 + bt s 2 - 128) * 64 + bt s 3 - 128, 4, true)) := by
  have hb1 := bt_range s 1
  have hb2 := bt_range s 2
  by_cases c0 : s.size < 4
  · rw [if_pos (.inl c0)]
    refine Ev.step (f := fun _ => some (65533, 1, false)) (fun k => ?_) (Ev.now _)
    simp only [q01_Rune.j2]
    rw [if_pos (by omega)]
  refine Ev.step (f := fun k => q01_Rune.l0 k s 4 x least ((1 : Nat) : Int)) (fun k => ?_) ?_
  · simp only [q01_Rune.j2]
    rw [if_neg (by omega)]; rfl
  by_cases c1 : bt s 1 < 128 ∨ bt s 1 ≥ 192
  · rw [if_pos (.inr (.inl c1))]
    exact rune_no s 4 least x 1 (by decide) (by omega) c1
  refine rune_go s 4 least x 1 (by omega) (by decide) (by omega) (by decide) c1 ?_
  rw [show bt s ((1 : Nat) : Int) = bt s 1 from rfl]
  by_cases c2 : bt s 2 < 128 ∨ bt s 2 ≥ 192
  · rw [if_pos (.inr (.inr (.inl c2)))]
    exact rune_no s 4 least _ 2 (by decide) (by omega) c2
  refine rune_go s 4 least _ 2 (by omega) (by decide) (by omega) (by decide) c2 ?_
  rw [show bt s ((2 : Nat) : Int) = bt s 2 from rfl]
  by_cases c3 : bt s 3 < 128 ∨ bt s 3 ≥ 192
  · rw [if_pos (.inr (.inr (.inr (.inl c3))))]
    exact rune_no s 4 least _ 3 (by decide) (by omega) c3
  refine rune_go s 4 least _ 3 (by omega) (by decide) (by omega) (by decide) c3 ?_
  rw [show bt s ((3 : Nat) : Int) = bt s 3 from rfl]
  have h := rune_end s 4 least (((x * 64 + bt s 1 - 128) * 64 + bt s 2 - 128) * 64 + bt s 3 - 128) ((3 + 1 : Nat) : Int) (by decide)
  by_cases c4 : (((x * 64 + bt s 1 - 128) * 64 + bt s 2 - 128) * 64 + bt s 3 - 128 < least ∨ ((x * 64 + bt s 1 - 128) * 64 + bt s 2 - 128) * 64 + bt s 3 - 128 > 1114111 ∨ (((x * 64 + bt s 1 - 128) * 64 + bt s 2 - 128) * 64 + bt s 3 - 128 ≥ 55296 ∧ ((x * 64 + bt s 1 - 128) * 64 + bt s 2 - 128) * 64 + bt s 3 - 128 < 57344))
  · rw [if_pos c4] at h
    rw [if_pos (.inr (.inr (.inr (.inr c4))))]; exact h
  · rw [if_neg c4] at h
    rw [if_neg (by omega)]; exact h
theorem decode2 (n b0 b1 b2 b3 : Nat) (h : 194 ≤ b0 ∧ b0 < 224) : Lib.decodeN n b0 b1 b2 b3 = if n < 2 ∨ b1 < 128 ∨ 192 ≤ b1 then (65533, 1) else ((b0 - 192) * 64 + (b1 - 128), 2) := by
  unfold Lib.decodeN
  rw [if_neg (by omega)]
  by_cases c : n < 2 ∨ b1 < 128 ∨ 192 ≤ b1
  · rw [if_pos c, if_neg (by omega), if_neg (by omega), if_neg (by omega)]
  · rw [if_neg c, if_pos (by omega), if_pos (by omega)]
    have e : b0 % 32 * 64 + b1 % 64 = (b0 - 192) * 64 + (b1 - 128) := by omega
    rw [e]
theorem decode3 (n b0 b1 b2 b3 : Nat) (h : 224 ≤ b0 ∧ b0 < 240) : Lib.decodeN n b0 b1 b2 b3 = if n < 3 ∨ (b1 < 128 ∨ 192 ≤ b1) ∨ (b2 < 128 ∨ 192 ≤ b2) ∨ (b0 - 224) * 4096 + (b1 - 128) * 64 + (b2 - 128) < 2048 ∨ (55296 ≤ (b0 - 224) * 4096 + (b1 - 128) * 64 + (b2 - 128) ∧ (b0 - 224) * 4096 + (b1 - 128) * 64 + (b2 - 128) < 57344) then (65533, 1) else ((b0 - 224) * 4096 + (b1 - 128) * 64 + (b2 - 128), 3) := by
  unfold Lib.decodeN
  rw [if_neg (by omega), if_neg (fun h => by omega)]
  by_cases c : 1 < n ∧ 2 < n ∧ b1 / 64 = 2 ∧ b2 / 64 = 2
  · rw [if_pos ⟨by omega, ⟨c.1, c.2.2.1⟩, c.2.1, c.2.2.2⟩]
    have e : b0 % 16 * 4096 + b1 % 64 * 64 + b2 % 64 = (b0 - 224) * 4096 + (b1 - 128) * 64 + (b2 - 128) := by omega
    have q1 : ¬ (n < 3) := by omega
    have q2 : ¬ (b1 < 128 ∨ 192 ≤ b1) := by omega
    have q3 : ¬ (b2 < 128 ∨ 192 ≤ b2) := by omega
    have q4 : (b0 - 224) * 4096 + (b1 - 128) * 64 + (b2 - 128) < 65536 := by omega
    rw [e]
    generalize (b0 - 224) * 4096 + (b1 - 128) * 64 + (b2 - 128) = v at q4
    clear e
    by_cases d : v < 2048 ∨ (55296 ≤ v ∧ v < 57344)
    · rw [if_neg (by omega), if_pos (.inr (.inr (.inr d)))]
    · rw [if_pos (by omega), if_neg (fun h => h.elim q1 fun h => h.elim q2 fun h => h.elim q3 d)]
  · rw [if_neg (fun h => c ⟨h.2.1.1, h.2.2.1, h.2.1.2, h.2.2.2⟩), if_neg (fun h => by omega), if_pos]
    by_cases q1 : n < 3
    · exact .inl q1
    by_cases q2 : b1 < 128 ∨ 192 ≤ b1
    · exact .inr (.inl q2)
    by_cases q3 : b2 < 128 ∨ 192 ≤ b2
    · exact .inr (.inr (.inl q3))
    exact absurd ⟨by omega, by omega, by omega, by omega⟩ c
theorem decode4 (n b0 b1 b2 b3 : Nat) (h : 240 ≤ b0 ∧ b0 < 245) : Lib.decodeN n b0 b1 b2 b3 = if n < 4 ∨ (b1 < 128 ∨ 192 ≤ b1) ∨ (b2 < 128 ∨ 192 ≤ b2) ∨ (b3 < 128 ∨ 192 ≤ b3) ∨ (b0 - 240) * 262144 + (b1 - 128) * 4096 + (b2 - 128) * 64 + (b3 - 128) < 65536 ∨ 1114111 < (b0 - 240) * 262144 + (b1 - 128) * 4096 + (b2 - 128) * 64 + (b3 - 128) then (65533, 1) else ((b0 - 240) * 262144 + (b1 - 128) * 4096 + (b2 - 128) * 64 + (b3 - 128), 4) := by
  unfold Lib.decodeN
  rw [if_neg (by omega), if_neg (fun h => by omega), if_neg (fun h => by omega)]
  by_cases c : 1 < n ∧ 2 < n ∧ 3 < n ∧ b1 / 64 = 2 ∧ b2 / 64 = 2 ∧ b3 / 64 = 2
  · rw [if_pos ⟨by omega, ⟨c.1, c.2.2.2.1⟩, ⟨c.2.1, c.2.2.2.2.1⟩, c.2.2.1, c.2.2.2.2.2⟩]
    have e : b0 % 8 * 262144 + b1 % 64 * 4096 + b2 % 64 * 64 + b3 % 64 = (b0 - 240) * 262144 + (b1 - 128) * 4096 + (b2 - 128) * 64 + (b3 - 128) := by omega
    have q1 : ¬ (n < 4) := by omega
    have q2 : ¬ (b1 < 128 ∨ 192 ≤ b1) := by omega
    have q3 : ¬ (b2 < 128 ∨ 192 ≤ b2) := by omega
    have q5 : ¬ (b3 < 128 ∨ 192 ≤ b3) := by omega
    rw [e]
    generalize (b0 - 240) * 262144 + (b1 - 128) * 4096 + (b2 - 128) * 64 + (b3 - 128) = v
    clear e
    by_cases d : v < 65536 ∨ 1114111 < v
    · rw [if_neg (by omega), if_pos (.inr (.inr (.inr (.inr d))))]
    · rw [if_pos (by omega), if_neg (fun h => h.elim q1 fun h => h.elim q2 fun h => h.elim q3 fun h => h.elim q5 d)]
  · rw [if_neg (fun h => c ⟨h.2.1.1, h.2.2.1.1, h.2.2.2.1, h.2.1.2, h.2.2.1.2, h.2.2.2.2⟩), if_pos]
    by_cases q1 : n < 4
    · exact .inl q1
    by_cases q2 : b1 < 128 ∨ 192 ≤ b1
    · exact .inr (.inl q2)
    by_cases q3 : b2 < 128 ∨ 192 ≤ b2
    · exact .inr (.inr (.inl q3))
    by_cases q4 : b3 < 128 ∨ 192 ≤ b3
    · exact .inr (.inr (.inr (.inl q4)))
    exact absurd ⟨by omega, by omega, by omega, by omega, by omega, by omega⟩ c
theorem decode0 (n b0 b1 b2 b3 : Nat) (h1 : 128 ≤ b0) (h : b0 < 194 ∨ 245 ≤ b0 ∧ b0 < 256) : Lib.decodeN n b0 b1 b2 b3 = (65533, 1) := by
  unfold Lib.decodeN
  rw [if_neg (by omega)]
  by_cases c2 : b0 / 32 = 6 ∧ (1 < n ∧ b1 / 64 = 2)
  · rw [if_pos c2, if_neg (by omega)]
  rw [if_neg c2, if_neg (fun h => by omega)]
  by_cases c4 : b0 / 8 = 30 ∧ (1 < n ∧ b1 / 64 = 2) ∧ (2 < n ∧ b2 / 64 = 2) ∧ (3 < n ∧ b3 / 64 = 2)
  · rw [if_pos c4, if_neg (fun h => by have := h.2; omega)]
  · rw [if_neg c4]
theorem get_lt (s : ByteArray) (i : Nat) : (s.get! i).toNat < 256 := (s.get! i).toNat_lt
theorem rune_ev (s : ByteArray) (h : 0 < s.size) : Ev (fun k => q01_Rune.f k s) (runeV s 0) := by
  have hd : Utf8.decode s 0 = Lib.decodeN s.size (s.get! 0).toNat (s.get! 1).toNat (s.get! 2).toNat (s.get! 3).toNat := Lib.decode_at s 0
  have g0 := get_lt s 0
  have g1 := get_lt s 1
  have g2 := get_lt s 2
  have g3 := get_lt s 3
  have e0 : bt s 0 = ((s.get! 0).toNat : Int) := bt_get s 0 h
  have e1 : 1 < s.size → bt s 1 = ((s.get! 1).toNat : Int) := bt_get s 1
  have e2 : 2 < s.size → bt s 2 = ((s.get! 2).toNat : Int) := bt_get s 2
  have e3 : 3 < s.size → bt s 3 = ((s.get! 3).toNat : Int) := bt_get s 3
  unfold runeV
  rw [hd]
  generalize (s.get! 0).toNat = b0 at *
  generalize (s.get! 1).toNat = b1 at *
  generalize (s.get! 2).toNat = b2 at *
  generalize (s.get! 3).toNat = b3 at *
  have hw : wrap64 (bt s 0) = (b0 : Int) := by rw [bt_w, e0]
  clear hd e0
  have hsub : ∀ c : Int, 0 ≤ c → c ≤ 255 → wrap64 ((b0 : Int) - c) = (b0 : Int) - c := fun c h0 h1 => w64 (by omega) (by omega)
  have hn : (0 : Int) < (s.size : Int) := by omega
  generalize hsz : s.size = n at *
  by_cases c1 : (b0 : Int) < 128
  · refine Ev.congr (f := fun _ => some ((b0 : Int), 1, true)) (fun k => ?_) ?_
    · unfold q01_Rune.f
      rw [hsz, if_pos hn, hw, if_pos c1]
    · have e : Lib.decodeN n b0 b1 b2 b3 = (b0, 1) := by unfold Lib.decodeN; rw [if_pos (by omega)]
      rw [e, if_neg (by simp only; omega)]
      exact Ev.now _
  have cbad : ∀ {v : Int × Int × Bool}, Lib.decodeN n b0 b1 b2 b3 = (65533, 1) → v = (65533, 1, false) → v = (if (Lib.decodeN n b0 b1 b2 b3).1 = 65533 ∧ (Lib.decodeN n b0 b1 b2 b3).2 = 1 then (65533, 1, false) else (((Lib.decodeN n b0 b1 b2 b3).1 : Int), ((Lib.decodeN n b0 b1 b2 b3).2 : Int), true)) := by
    intro v h1 h2
    rw [h1, if_pos ⟨rfl, rfl⟩, h2]
  have cgood : ∀ {v : Int × Int × Bool} {c m : Nat}, Lib.decodeN n b0 b1 b2 b3 = (c, m) → m ≠ 1 → v = ((c : Int), (m : Int), true) → v = (if (Lib.decodeN n b0 b1 b2 b3).1 = 65533 ∧ (Lib.decodeN n b0 b1 b2 b3).2 = 1 then (65533, 1, false) else (((Lib.decodeN n b0 b1 b2 b3).1 : Int), ((Lib.decodeN n b0 b1 b2 b3).2 : Int), true)) := by
    intro v c m h1 h2 h3
    rw [h1, if_neg (fun h => h2 h.2), h3]
  by_cases c2 : (b0 : Int) ≥ 194 ∧ (b0 : Int) < 224
  · refine Ev.congr (f := fun k => q01_Rune.j0 k s (b0 : Int) true) (fun k => ?_) ?_
    · unfold q01_Rune.f
      rw [hsz, if_pos hn, hw, if_neg c1, if_pos c2.1, decide_eq_true c2.2]
    refine Ev.step (f := fun k => q01_Rune.j2 k s 2 ((b0 : Int) - 192) 128) (fun k => ?_) ?_
    · simp only [q01_Rune.j0]
      rw [if_pos (by trivial), hsub 192 (by decide) (by decide)]
    have h := rune_two s ((b0 : Int) - 192) 128 (by omega)
    rw [hsz] at h
    have key := decode2 n b0 b1 b2 b3 ⟨by omega, by omega⟩
    by_cases c : n < 2 ∨ b1 < 128 ∨ 192 ≤ b1
    · rw [if_pos c] at key
      rw [← cbad key rfl]
      rwa [if_pos (by
        rcases Nat.lt_or_ge n 2 with h2 | h2
        · exact .inl h2
        · have := e1 (by omega); omega)] at h
    · rw [if_neg c] at key
      have h1 := e1 (by omega)
      rw [← cgood key (by decide) rfl]
      rw [if_neg (by omega)] at h
      rw [show (((b0 - 192) * 64 + (b1 - 128) : Nat) : Int) = ((b0 : Int) - 192) * 64 + bt s 1 - 128 by omega]
      exact h
  by_cases c3 : (b0 : Int) ≥ 224 ∧ (b0 : Int) < 240
  · refine Ev.congr (f := fun k => q01_Rune.j0 k s (b0 : Int) false) (fun k => ?_) ?_
    · unfold q01_Rune.f
      rw [hsz, if_pos hn, hw, if_neg c1, if_pos (by omega), decide_eq_false (by omega)]
    refine Ev.step (f := fun k => q01_Rune.j1 k s (b0 : Int) true) (fun k => ?_) ?_
    · simp only [q01_Rune.j0]
      rw [if_neg (by decide), if_pos c3.1, decide_eq_true c3.2]
    refine Ev.step (f := fun k => q01_Rune.j2 k s 3 ((b0 : Int) - 224) 2048) (fun k => ?_) ?_
    · simp only [q01_Rune.j1]
      rw [if_pos (by trivial), hsub 224 (by decide) (by decide)]
    have h := rune_three s ((b0 : Int) - 224) 2048 (by omega)
    rw [hsz] at h
    have key := decode3 n b0 b1 b2 b3 ⟨by omega, by omega⟩
    by_cases c : n < 3 ∨ (b1 < 128 ∨ 192 ≤ b1) ∨ (b2 < 128 ∨ 192 ≤ b2) ∨ (b0 - 224) * 4096 + (b1 - 128) * 64 + (b2 - 128) < 2048 ∨ (55296 ≤ (b0 - 224) * 4096 + (b1 - 128) * 64 + (b2 - 128) ∧ (b0 - 224) * 4096 + (b1 - 128) * 64 + (b2 - 128) < 57344)
    · rw [if_pos c] at key
      rw [← cbad key rfl]
      rwa [if_pos (by
        rcases Nat.lt_or_ge n 3 with h2 | h2
        · exact .inl h2
        · have h1 := e1 (by omega); have h2 := e2 (by omega); rw [h1, h2]; omega)] at h
    · rw [if_neg c] at key
      have h1 := e1 (by omega)
      have h2 := e2 (by omega)
      rw [← cgood key (by decide) rfl]
      rw [h1, h2] at h
      rw [if_neg (by omega)] at h
      rw [show (((b0 - 224) * 4096 + (b1 - 128) * 64 + (b2 - 128) : Nat) : Int) = (((b0 : Int) - 224) * 64 + (b1 : Int) - 128) * 64 + (b2 : Int) - 128 by omega]
      exact h
  by_cases c4 : (b0 : Int) ≥ 240 ∧ (b0 : Int) < 245
  · refine Ev.congr (f := fun k => q01_Rune.j0 k s (b0 : Int) false) (fun k => ?_) ?_
    · unfold q01_Rune.f
      rw [hsz, if_pos hn, hw, if_neg c1, if_pos (by omega), decide_eq_false (by omega)]
    refine Ev.step (f := fun k => q01_Rune.j1 k s (b0 : Int) false) (fun k => ?_) ?_
    · simp only [q01_Rune.j0]
      rw [if_neg (by decide), if_pos (by omega), decide_eq_false (by omega)]
    refine Ev.step (f := fun k => q01_Rune.j2 k s 4 ((b0 : Int) - 240) 65536) (fun k => ?_) ?_
    · simp only [q01_Rune.j1]
      rw [if_neg (by decide), if_pos c4.1, if_pos c4.2, hsub 240 (by decide) (by decide)]
    have h := rune_four s ((b0 : Int) - 240) 65536 (by omega)
    rw [hsz] at h
    have key := decode4 n b0 b1 b2 b3 ⟨by omega, by omega⟩
    by_cases c : n < 4 ∨ (b1 < 128 ∨ 192 ≤ b1) ∨ (b2 < 128 ∨ 192 ≤ b2) ∨ (b3 < 128 ∨ 192 ≤ b3) ∨ (b0 - 240) * 262144 + (b1 - 128) * 4096 + (b2 - 128) * 64 + (b3 - 128) < 65536 ∨ 1114111 < (b0 - 240) * 262144 + (b1 - 128) * 4096 + (b2 - 128) * 64 + (b3 - 128)
    · rw [if_pos c] at key
      rw [← cbad key rfl]
      rwa [if_pos (by
        rcases Nat.lt_or_ge n 4 with h2 | h2
        · exact .inl h2
        · have h1 := e1 (by omega); have h2 := e2 (by omega); have h3 := e3 (by omega); rw [h1, h2, h3]; omega)] at h
    · rw [if_neg c] at key
      have h1 := e1 (by omega)
      have h2 := e2 (by omega)
      have h3 := e3 (by omega)
      rw [← cgood key (by decide) rfl]
      rw [h1, h2, h3] at h
      rw [if_neg (by omega)] at h
      rw [show (((b0 - 240) * 262144 + (b1 - 128) * 4096 + (b2 - 128) * 64 + (b3 - 128) : Nat) : Int) = ((((b0 : Int) - 240) * 64 + (b1 : Int) - 128) * 64 + (b2 : Int) - 128) * 64 + (b3 : Int) - 128 by omega]
      exact h
  have key := decode0 n b0 b1 b2 b3 (by omega) (by omega)
  rw [← cbad key rfl]
  refine Ev.congr (f := fun k => q01_Rune.j0 k s (b0 : Int) false) (fun k => ?_) ?_
  · unfold q01_Rune.f
    rw [hsz, if_pos hn, hw, if_neg c1]
    by_cases c5 : (b0 : Int) ≥ 194
    · rw [if_pos c5, decide_eq_false (by omega)]
    · rw [if_neg c5]
  refine Ev.step (f := fun k => if (b0 : Int) ≥ 224 then q01_Rune.j1 k s (b0 : Int) false else q01_Rune.j1 k s (b0 : Int) false) (fun k => ?_) ?_
  · simp only [q01_Rune.j0]
    rw [if_neg (by decide)]
    by_cases c5 : (b0 : Int) ≥ 224
    · rw [if_pos c5, if_pos c5, decide_eq_false (by omega)]
    · rw [if_neg c5, if_neg c5]
  refine Ev.congr (f := fun k => q01_Rune.j1 k s (b0 : Int) false) (fun k => by split <;> rfl) ?_
  refine Ev.step (f := fun _ => some (65533, 1, false)) (fun k => ?_) (Ev.now _)
  simp only [q01_Rune.j1]
  rw [if_neg (by decide)]
  by_cases c5 : (b0 : Int) ≥ 240
  · rw [if_pos c5, if_neg (by omega)]
  · rw [if_neg c5]
def refV : Nat → List UInt8 → Int
  | 0, _ => 0
  | n + 1, l => if l = [] then 0 else if (Lib.decodeL l).1 = 65533 ∧ (Lib.decodeL l).2 = 1 then 206 else if (Lib.decodeL l).1 = 47 then 206 else if (Lib.decodeL l).1 = 0 then 206 else refV n (l.drop (Lib.decodeL l).2)
def badL : Nat → List UInt8 → Bool
  | 0, _ => false
  | n + 1, l => if l = [] then false else if (Lib.decodeL l).1 = 47 then true else if (Lib.decodeL l).1 = 0 then true else badL n (l.drop (Lib.decodeL l).2)
theorem nmBad_badL (s : ByteArray) : ∀ n pos, nmBad s n pos = badL n (s.data.toList.drop pos)
  | 0, _ => rfl
  | n + 1, pos => by
    unfold nmBad badL
    have hl : s.data.toList.length = s.size := by rw [Array.length_toList]; rfl
    by_cases h : pos < s.size
    · have hne : s.data.toList.drop pos ≠ [] := fun e => by have := congrArg List.length e; rw [List.length_drop, hl] at this; simp at this; omega
      rw [if_pos h, if_neg hne, Lib.decodeL_drop, nmBad_badL s n, List.drop_drop]
    · rw [if_neg h, if_pos (List.drop_eq_nil_of_le (by omega))]
theorem refV_eq : ∀ (n : Nat) (l : List UInt8), l.length ≤ n → refV n l = if Lib.validD l = true then (if badL n l = true then 206 else 0) else 206
  | 0, l, h => by
    obtain rfl : l = [] := List.eq_nil_of_length_eq_zero (by omega)
    rfl
  | n + 1, l, h => by
    unfold refV badL
    by_cases he : l = []
    · subst he; rfl
    rw [if_neg he, if_neg he, Lib.validD_step l he]
    by_cases c1 : (Lib.decodeL l).1 = 65533 ∧ (Lib.decodeL l).2 = 1
    · rw [if_pos c1, if_pos c1, if_neg (by decide)]
    rw [if_neg c1, if_neg c1]
    have hw := Lib.decodeL_width l
    have hl : 0 < l.length := List.length_pos_iff.2 he
    have ih := refV_eq n (l.drop (Lib.decodeL l).2) (by rw [List.length_drop]; omega)
    by_cases c2 : (Lib.decodeL l).1 = 47
    · rw [if_pos c2, if_pos c2, if_pos rfl]; split <;> rfl
    rw [if_neg c2, if_neg c2]
    by_cases c3 : (Lib.decodeL l).1 = 0
    · rw [if_pos c3, if_pos c3, if_pos rfl]; split <;> rfl
    rw [if_neg c3, if_neg c3, ih]
theorem size_list (s : ByteArray) : s.data.toList.length = s.size := by rw [Array.length_toList]; rfl
theorem check_loop (s : ByteArray) (hs : s.size ≤ 100) : ∀ (n pos : Nat), s.size ≤ pos + n → Ev (fun k => q01_Check.l0 k s (pos : Int)) (refV n (s.data.toList.drop pos))
  | 0, pos, h => by
    refine Ev.step (f := fun _ => some 0) (fun k => ?_) (Ev.now _)
    simp only [q01_Check.l0]
    rw [if_neg (by omega)]
  | n + 1, pos, h => by
    unfold refV
    by_cases c : pos < s.size
    case neg =>
      rw [if_pos (List.drop_eq_nil_of_le (by rw [size_list]; omega))]
      refine Ev.step (f := fun _ => some 0) (fun k => ?_) (Ev.now _)
      simp only [q01_Check.l0]
      rw [if_neg (by omega)]
    rw [if_neg (fun e => by have := congrArg List.length e; rw [List.length_drop, size_list] at this; simp at this; omega)]
    have he : (s.extract pos s.size).size = s.size - pos := by simp [ByteArray.size_extract]
    have hr := rune_ev (s.extract pos s.size) (by omega)
    have hdec : Utf8.decode (s.extract pos s.size) 0 = Lib.decodeL (s.data.toList.drop pos) := by
      rw [← Lib.decodeL_drop (s.extract pos s.size) 0, List.drop_zero]
      congr 1
      simp [ByteArray.data_extract, List.extract_eq_take_drop, List.take_of_length_le, size_list]
    unfold runeV at hr
    rw [hdec] at hr
    have ih := check_loop s hs n (pos + (Lib.decodeL (s.data.toList.drop pos)).2) (by have := Lib.decodeL_width (s.data.toList.drop pos); omega)
    rw [← List.drop_drop] at ih
    have hw4 : (Lib.decodeL (s.data.toList.drop pos)).2 ≤ 4 := by
      rw [Lib.decodeL_drop, Lib.decode_at]; unfold Lib.decodeN; repeat' split
      all_goals simp
    have hw : wrap64 ((pos : Int) + ((Lib.decodeL (s.data.toList.drop pos)).2 : Int)) = ((pos + (Lib.decodeL (s.data.toList.drop pos)).2 : Nat) : Int) := by rw [w64 (by omega) (by omega)]; omega
    generalize Lib.decodeL (s.data.toList.drop pos) = d at *
    refine Ev.step (f := fun k => (q01_Rune.f k (s.extract pos s.size)).bind fun bt257 => (if bt257.2.2 = true then (if bt257.1 = 47 then (some 206) else (if bt257.1 = 0 then (some 206) else (q01_Check.l0 k s (wrap64 ((pos : Int) + bt257.2.1))))) else (some 206))) (fun k => ?_) ?_
    · simp only [q01_Check.l0]
      rw [if_pos (by omega), if_pos (by omega), if_pos (by omega), Int.toNat_natCast]
    refine Ev.bind hr ?_
    by_cases c1 : d.1 = 65533 ∧ d.2 = 1
    · rw [if_pos c1, if_pos c1]
      exact Ev.now _
    rw [if_neg c1, if_neg c1]
    simp only [if_true, hw]
    by_cases c2 : d.1 = 47
    · rw [if_pos c2]
      exact Ev.congr (fun k => if_pos (by omega)) (Ev.now _)
    rw [if_neg c2]
    refine Ev.congr (fun k => if_neg (by omega)) ?_
    by_cases c3 : d.1 = 0
    · rw [if_pos c3]
      exact Ev.congr (fun k => if_pos (by omega)) (Ev.now _)
    rw [if_neg c3]
    exact Ev.congr (fun k => if_neg (by omega)) ih
theorem check_ev (s : ByteArray) : Ev (fun k => q01_Check.f k s) (chkV s) := by
  unfold chkV q01_Check.f
  by_cases c1 : s.toList = ([] : List UInt8)
  · simp only [if_pos c1]; exact Ev.now _
  simp only [if_neg c1]
  by_cases c2 : (s.size : Int) > 100
  · simp only [if_pos c2]; exact Ev.now _
  simp only [if_neg c2]
  have hj : Ev (fun k => q01_Check.j0 k s true) 206 := Ev.step (f := fun _ => some 206) (fun k => by simp only [q01_Check.j0]; rw [if_pos (by trivial)]) (Ev.now _)
  by_cases c3 : s.toList = ([46] : List UInt8)
  · simp only [if_pos c3]; exact hj
  simp only [if_neg c3]
  by_cases c4 : s.toList = ([46, 46] : List UInt8)
  · rw [if_pos c4, beq_iff_eq.mpr c4]; exact hj
  rw [if_neg c4, beq_eq_false_iff_ne.mpr c4]
  refine Ev.step (f := fun k => q01_Check.l0 k s ((0 : Nat) : Int)) (fun k => ?_) ?_
  · simp only [q01_Check.j0]
    rw [if_neg (by decide)]; rfl
  have h := check_loop s (by omega) s.size 0 (by omega)
  rw [List.drop_zero, refV_eq _ _ (by rw [size_list]; exact Nat.le_refl _)] at h
  rw [nmBad_badL, List.drop_zero]
  exact h
end Go.Proofs.YtigbmfogfgbmfaaDoor.Pure
