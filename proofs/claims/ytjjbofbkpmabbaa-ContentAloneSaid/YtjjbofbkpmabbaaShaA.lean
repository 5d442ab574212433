import Derived.Test.YtjjbofbkpmabbaaO
import Derived.Test.YtjjbofbkpmabbaaU
import Derived.Test.YtjjbofbkpmabbaaHx0
import Derived.Test.YtjjbofbkpmabbaaHx1
import Derived.Test.YtjjbofbkpmabbaaHx4
import Derived.Test.YtjjbofbkpmabbaaHx9
import Derived.Test.YtjjbofbkpmabbaaHx10
namespace Go.Proofs.Ytjjbofbkpmabbaa.Pure
open Go.RowKit Go.Proofs.Ytjjbofbkpmabbaa.Fn Go.Proofs.YtjjbofbkpmabbaaW.PrintWords Go.Proofs.YtjjbofbkpmabbaaW.PrintLast Go.Proofs.Ytjjbofbkpmabbaa.U
set_option linter.unusedVariables false
set_option linter.unusedSimpArgs false
def W32 (x : Int) : Prop := 0 ≤ x ∧ x < 4294967296
theorem W32.nat {x : Int} (h : W32 x) : ∃ n : Nat, x = n ∧ n < 4294967296 := ⟨x.toNat, by have := h.1; omega, by have := h.1; have := h.2; omega⟩
theorem W32.of (n : Nat) (h : n < 4294967296) : W32 (n : Int) := ⟨by omega, by omega⟩
theorem W32.mod (x : Int) : W32 (x % 4294967296) := ⟨by omega, by omega⟩
theorem W32.or {x y : Int} (hx : W32 x) (hy : W32 y) : W32 (Go.bits .or .u32 x y) := by
  obtain ⟨a, rfl, ha⟩ := hx.nat; obtain ⟨b, rfl, hb⟩ := hy.nat
  rw [u32_or_nat a b ha hb]; exact W32.of _ (Nat.or_lt_two_pow (n := 32) ha hb)
theorem W32.xor {x y : Int} (hx : W32 x) (hy : W32 y) : W32 (Go.bits .xor .u32 x y) := by
  obtain ⟨a, rfl, ha⟩ := hx.nat; obtain ⟨b, rfl, hb⟩ := hy.nat
  rw [u32_xor_nat a b ha hb]; exact W32.of _ (Nat.xor_lt_two_pow (n := 32) ha hb)
def Ws (l : List Int) : Prop := ∀ x ∈ l, W32 x
theorem Ws.rd {l : List Int} (h : Ws l) (i : Int) : W32 (rd l i) := by
  unfold Go.Proofs.YtjjbofbkpmabbaaW.PrintWords.rd
  rw [List.getD_eq_getElem?_getD]
  cases e : l[i.toNat]? with
  | none => exact ⟨by simp, by simp⟩
  | some x => exact h x (List.mem_of_getElem? e)
theorem shl_nat (x l r : Nat) (hl : l + r = 32) : shl .u32 (x : Int) (l : Int) = ((x % 2 ^ r * 2 ^ l : Nat) : Int) := by
  have hp : 2 ^ r * 2 ^ l = 4294967296 := by rw [← Nat.pow_add, Nat.add_comm, hl]
  unfold shl
  have em : min (((l : Nat) : Int).toNat) (IntKind.u32.bits) = l := by rw [Int.toNat_natCast]; show min l 32 = l; omega
  rw [em, IntKind.wrap_u32, show ((x : Int) * 2 ^ l) = ((x * 2 ^ l : Nat) : Int) by simp, ← Nat.mul_mod_mul_right, hp]
  generalize x * 2 ^ l = z
  omega
theorem rot_lt (x l r : Nat) (hx : x < 4294967296) (hl : l + r = 32) : x % 2 ^ r * 2 ^ l + x / 2 ^ r < 4294967296 ∧ x / 2 ^ r < 2 ^ l := by
  have hp : 2 ^ r * 2 ^ l = 4294967296 := by rw [← Nat.pow_add, Nat.add_comm, hl]
  have hlt : x / 2 ^ r < 2 ^ l := Nat.div_lt_of_lt_mul (by rw [hp]; exact hx)
  have hm : x % 2 ^ r < 2 ^ r := Nat.mod_lt _ (Nat.pow_pos (by decide))
  have h2 : (x % 2 ^ r + 1) * 2 ^ l ≤ 2 ^ r * 2 ^ l := Nat.mul_le_mul_right _ hm
  rw [Nat.add_mul, Nat.one_mul, hp] at h2
  generalize x % 2 ^ r * 2 ^ l = p at *
  generalize x / 2 ^ r = q at *
  generalize 2 ^ l = z at *
  exact ⟨by omega, hlt⟩
theorem rot_nat (x l r : Nat) (hx : x < 4294967296) (hl : l + r = 32) : rotR (x : Int) (l : Int) (r : Int) = ((x % 2 ^ r * 2 ^ l + x / 2 ^ r : Nat) : Int) := by
  have hr : shr .u32 (x : Int) (r : Int) = ((x / 2 ^ r : Nat) : Int) := shr_nat .u32 x r _ rfl (by simp [IntKind.bits]; omega)
  obtain ⟨h1, h2⟩ := rot_lt x l r hx hl
  have hd : x % 2 ^ r * 2 ^ l % 2 ^ l = 0 := Nat.mul_mod_left _ _
  unfold rotR
  rw [shl_nat x l r hl, hr]
  generalize x % 2 ^ r * 2 ^ l = p at *
  generalize x / 2 ^ r = q at *
  rw [u32_or_nat _ _ (by omega) (by omega), nat_join l _ _ hd h2]
theorem right_nat (x l r : Nat) (hx : x < 4294967296) (hl : l + r = 32) : q04_right.f (x : Int) (r : Int) = some (rotR (x : Int) (l : Int) (r : Int)) := by
  rw [rot_nat x l r hx hl]
  have hr : shr .u32 (x : Int) (r : Int) = ((x / 2 ^ r : Nat) : Int) := shr_nat .u32 x r _ rfl (by simp [IntKind.bits]; omega)
  obtain ⟨h1, h2⟩ := rot_lt x l r hx hl
  unfold q04_right.f
  have e1 : (32 - (r : Int)) % 4294967296 = (l : Int) := by omega
  rw [if_pos (by omega), e1, shl_nat x l r hl, hr]
  generalize x % 2 ^ r * 2 ^ l = p at *
  generalize x / 2 ^ r = q at *
  congr 1
  omega
theorem right_eq {x : Int} (hx : W32 x) (l r : Nat) (hl : l + r = 32) : q04_right.f x (r : Int) = some (rotR x (l : Int) (r : Int)) := by
  obtain ⟨n, rfl, hn⟩ := hx.nat
  exact right_nat n l r hn hl
theorem r7 {x : Int} (h : W32 x) : q04_right.f x 7 = some (rotR x 25 7) := right_eq h 25 7 rfl
theorem r18 {x : Int} (h : W32 x) : q04_right.f x 18 = some (rotR x 14 18) := right_eq h 14 18 rfl
theorem r17 {x : Int} (h : W32 x) : q04_right.f x 17 = some (rotR x 15 17) := right_eq h 15 17 rfl
theorem r19 {x : Int} (h : W32 x) : q04_right.f x 19 = some (rotR x 13 19) := right_eq h 13 19 rfl
theorem r2 {x : Int} (h : W32 x) : q04_right.f x 2 = some (rotR x 30 2) := right_eq h 30 2 rfl
theorem r13 {x : Int} (h : W32 x) : q04_right.f x 13 = some (rotR x 19 13) := right_eq h 19 13 rfl
theorem r22 {x : Int} (h : W32 x) : q04_right.f x 22 = some (rotR x 10 22) := right_eq h 10 22 rfl
theorem r6 {x : Int} (h : W32 x) : q04_right.f x 6 = some (rotR x 26 6) := right_eq h 26 6 rfl
theorem r11 {x : Int} (h : W32 x) : q04_right.f x 11 = some (rotR x 21 11) := right_eq h 21 11 rfl
theorem r25 {x : Int} (h : W32 x) : q04_right.f x 25 = some (rotR x 7 25) := right_eq h 7 25 rfl
theorem small_r {x : Int} (h : W32 x) : Go.bits .xor .u32 (Go.bits .xor .u32 (rotR x 25 7) (rotR x 14 18)) (Int.tdiv x 8 % 4294967296) = smallW x := by
  unfold smallW
  congr 1
  obtain ⟨n, rfl, hn⟩ := h.nat
  rw [show shr .u32 (n : Int) 3 = ((n / 2 ^ 3 : Nat) : Int) from shr_nat .u32 n 3 _ rfl (by decide), Int.tdiv_eq_ediv_of_nonneg (by omega)]
  omega
theorem great_r {x : Int} (h : W32 x) : Go.bits .xor .u32 (Go.bits .xor .u32 (rotR x 15 17) (rotR x 13 19)) (Int.tdiv x 1024 % 4294967296) = greatW x := by
  unfold greatW
  congr 1
  obtain ⟨n, rfl, hn⟩ := h.nat
  rw [show shr .u32 (n : Int) 10 = ((n / 2 ^ 10 : Nat) : Int) from shr_nat .u32 n 10 _ rfl (by decide), Int.tdiv_eq_ediv_of_nonneg (by omega)]
  omega
theorem andNot_r {x y : Int} (hx : W32 x) (hy : W32 y) : Go.bits .and .u32 ((4294967295 - x) % 4294967296) y = Go.bits .andNot .u32 y x := by
  obtain ⟨a, rfl, ha⟩ := hx.nat; obtain ⟨b, rfl, hb⟩ := hy.nat
  rw [u32_andNot_nat b a hb ha, show (4294967295 - (a : Int)) % 4294967296 = ((4294967295 - a : Nat) : Int) by omega, u32_and_nat _ _ (by omega) hb, Nat.and_comm]
theorem nextW_W {l ws : List Int} (i : Int) (hl : Ws l) : W32 (nextW l ws i) := by
  unfold nextW
  split
  · exact W32.or (W32.or (W32.or (W32.mod _) (W32.mod _)) (W32.mod _)) (W32.mod _)
  · exact W32.mod _
theorem schedW_Ws {l : List Int} (hl : Ws l) : ∀ n, Ws (schedW l n)
  | 0 => fun x hx => by simp [schedW] at hx
  | n + 1 => fun x hx => by
    rw [schedW, List.mem_append] at hx
    rcases hx with hx | hx
    · exact schedW_Ws hl n x hx
    · rw [List.mem_singleton] at hx; subst hx; exact nextW_W _ hl
theorem stepV_Ws {kk ws v : List Int} (i : Int) (hv : Ws v) : Ws (stepV kk ws v i) := by
  intro x hx
  simp only [stepV, List.mem_cons, List.not_mem_nil, or_false] at hx
  rcases hx with rfl | rfl | rfl | rfl | rfl | rfl | rfl | rfl
  all_goals first | exact W32.mod _ | exact hv.rd _
theorem roundsV_Ws {h kk ws : List Int} (hh : Ws h) : ∀ n, Ws (roundsV h kk ws n)
  | 0 => hh
  | n + 1 => stepV_Ws _ (roundsV_Ws hh n)
theorem sumV_Ws {h v : List Int} (i : Nat) (hh : Ws h) : Ws (sumV h v i) := by
  intro x hx
  unfold sumV at hx
  obtain ⟨j, _, rfl⟩ := List.mem_map.1 hx
  split
  · exact W32.mod _
  · exact hh.rd _
theorem blockV_Ws {h kk l : List Int} (hh : Ws h) : Ws (blockV h kk l) := sumV_Ws _ hh
theorem blockV_length (h kk l : List Int) : (blockV h kk l).length = 8 := sumV_length _ _ _
end Go.Proofs.Ytjjbofbkpmabbaa.Pure
