import Derived.Test.YtbnkcbfhappgnaaDoorX
import Derived.Laws.BitsAllLaws
import Derived.Test.YtbnkcbfhappgnaaDoorO
import Derived.Test.YtbnkcbfhappgnaaDoorHx0
import Derived.Test.YtbnkcbfhappgnaaDoorHx1
import Derived.Test.YtbnkcbfhappgnaaDoorHx3
import Derived.Test.YtbnkcbfhappgnaaDoorHx7
import Derived.Test.YtbnkcbfhappgnaaDoorHx8
import Derived.Test.YtbnkcbfhappgnaaDoorHx9
import Derived.Test.YtbnkcbfhappgnaaDoorHx4
import Derived.Test.YtbnkcbfhappgnaaDoorHx10
import Derived.Test.YtbnkcbfhappgnaaDoorHx15
import Derived.Test.YtbnkcbfhappgnaaDoorLebA
import Derived.Test.YtbnkcbfhappgnaaDoorHx5
import Derived.Test.YtbnkcbfhappgnaaDoorHx11
import Derived.Test.YtbnkcbfhappgnaaDoorCrcA
import Derived.Test.YtbnkcbfhappgnaaDoorHx14
import Derived.Test.YtbnkcbfhappgnaaDoorHx6
import Derived.Test.YtbnkcbfhappgnaaDoorHx12
import Derived.Test.YtbnkcbfhappgnaaDoorHx13
namespace Go.Proofs.YtbnkcbfhappgnaaDoor.U
open Go.RowKit Go.Proofs.YtbnkcbfhappgnaaDoorW.PrintWords Go.Proofs.YtbnkcbfhappgnaaDoorW.PrintLast
set_option linter.unusedVariables false
set_option linter.unusedSimpArgs false
def ofN (ns : List Nat) : List Int := ns.map Int.ofNat
@[simp] theorem ofN_nil : ofN [] = [] := rfl
@[simp] theorem ofN_cons (n : Nat) (ns : List Nat) : ofN (n :: ns) = (n : Int) :: ofN ns := rfl
@[simp] theorem ofN_append (a b : List Nat) : ofN (a ++ b) = ofN a ++ ofN b := by simp [ofN]
@[simp] theorem ofN_length (a : List Nat) : (ofN a).length = a.length := by simp [ofN]
theorem ofN_take (a : List Nat) (n : Nat) : (ofN a).take n = ofN (a.take n) := by simp [ofN, List.map_take]
theorem ofN_drop (a : List Nat) (n : Nat) : (ofN a).drop n = ofN (a.drop n) := by simp [ofN, List.map_drop]
theorem ofN_set (a : List Nat) (n m : Nat) : (ofN a).set n (m : Int) = ofN (a.set n m) := by simp [ofN, List.map_set]
theorem rd_ofN (a : List Nat) (i : Int) : rd (ofN a) i = ((a.getD i.toNat 0 : Nat) : Int) := by
  unfold rd ofN
  rw [List.getD_eq_getElem?_getD, List.getD_eq_getElem?_getD, List.getElem?_map]
  cases a[i.toNat]? <;> rfl
theorem rd_at (a b : List Nat) (x : Nat) (i : Int) (h : i = a.length) : rd (ofN (a ++ x :: b)) i = (x : Int) := by
  subst h
  rw [rd_ofN]
  simp
theorem u8_range {x : Int} (h : (Lit.int .u8 x).wf = true) : 0 ≤ x ∧ x < 256 := by
  simp [Lit.wf, IntKind.min, IntKind.max, IntKind.bits, IntKind.signed] at h
  omega
theorem bytes_of {l : List Int} (h : ∀ x ∈ l, (Lit.int .u8 x).wf = true) : ∃ ns : List Nat, l = ofN ns ∧ ∀ n ∈ ns, n < 256 := by
  refine ⟨l.map Int.toNat, ?_, ?_⟩
  · unfold ofN
    rw [List.map_map]
    conv => lhs; rw [← List.map_id l]
    apply List.map_congr_left
    intro x hx
    have := u8_range (h x hx)
    simp only [id, Function.comp]
    show x = ((x.toNat : Nat) : Int)
    omega
  · intro n hn
    obtain ⟨x, hx, rfl⟩ := List.mem_map.1 hn
    have := u8_range (h x hx)
    omega
theorem w64 {x : Int} (h0 : -9223372036854775808 ≤ x) (h1 : x < 9223372036854775808) : wrap64 x = x := by unfold wrap64; omega
theorem str_eq {a b : List Nat} (ha : ∀ x ∈ a, x < 256) (hb : ∀ x ∈ b, x < 256) : ((strOfNums (ofN a)).toList == (strOfNums (ofN b)).toList) = (a == b) := by
  have e : ∀ c : List Nat, (strOfNums (ofN c)).toList = c.map UInt8.ofNat := by
    intro c
    rw [ByteArray.toList_eq]
    simp [strOfNums, ofN, List.map_map, Function.comp_def]
  rw [e, e, Bool.eq_iff_iff]
  simp only [beq_iff_eq]
  constructor
  · intro h
    induction a generalizing b with
    | nil => cases b with
      | nil => rfl
      | cons y b => simp at h
    | cons x a ih =>
      cases b with
      | nil => simp at h
      | cons y b =>
        simp only [List.map_cons, List.cons.injEq] at h
        have hx := ha x (by simp)
        have hy := hb y (by simp)
        have h1 : x = y := by
          have := congrArg UInt8.toNat h.1
          rw [UInt8.toNat_ofNat', UInt8.toNat_ofNat'] at this
          omega
        rw [h1, ih (fun z hz => ha z (by simp [hz])) (fun z hz => hb z (by simp [hz])) h.2]
  · rintro rfl
    rfl
theorem shr_nat (k : IntKind) (x n : Nat) (y : Int) (hy : y = (n : Int)) (h : n ≤ k.bits) : shr k (x : Int) y = ((x / 2 ^ n : Nat) : Int) := by
  subst hy
  unfold shr
  rw [Int.toNat_natCast, Nat.min_eq_left h]
  simp
end Go.Proofs.YtbnkcbfhappgnaaDoor.U
namespace Go.Proofs.YtbnkcbfhappgnaaDoor.Pure
open Go.RowKit Go.Proofs.YtbnkcbfhappgnaaDoor.Fn Go.Proofs.YtbnkcbfhappgnaaDoorW.PrintWords Go.Proofs.YtbnkcbfhappgnaaDoorW.PrintLast Go.Proofs.YtbnkcbfhappgnaaDoor.U
set_option linter.unusedVariables false
set_option linter.unusedSimpArgs false
def W32 (x : Int) : Prop := 0 ≤ x ∧ x < 4294967296
theorem W32.nat {x : Int} (h : W32 x) : ∃ n : Nat, x = n ∧ n < 4294967296 := ⟨x.toNat, by have := h.1; omega, by have := h.1; have := h.2; omega⟩
theorem W32.of (n : Nat) (h : n < 4294967296) : W32 (n : Int) := ⟨by omega, by omega⟩
theorem W32.mod (x : Int) : W32 (x % 4294967296) := ⟨by omega, by omega⟩
theorem W32.or {x y : Int} (hx : W32 x) (hy : W32 y) : W32 (Go.bits .or .u32 x y) := by
  obtain ⟨a, rfl, ha⟩ := hx.nat; obtain ⟨b, rfl, hb⟩ := hy.nat
  rw [u32_or_nat a b ha hb]; exact W32.of _ (Nat.or_lt_two_pow (n := 32) ha hb)
theorem W32.xor {x y : Int} (hx : W32 x) (hy : W32 y) : W32 (Go.bits .xor .u32 x y) := by
  obtain ⟨a, rfl, ha⟩ := hx.nat; obtain ⟨b, rfl, hb⟩ := hy.nat
  rw [u32_xor_nat a b ha hb]; exact W32.of _ (Nat.xor_lt_two_pow (n := 32) ha hb)
def Ws (l : List Int) : Prop := ∀ x ∈ l, W32 x
theorem Ws.rd {l : List Int} (h : Ws l) (i : Int) : W32 (rd l i) := by
  unfold Go.Proofs.YtbnkcbfhappgnaaDoorW.PrintWords.rd
  rw [List.getD_eq_getElem?_getD]
  cases e : l[i.toNat]? with
  | none => exact ⟨by simp, by simp⟩
  | some x => exact h x (List.mem_of_getElem? e)
theorem shl_nat (x l r : Nat) (hl : l + r = 32) : shl .u32 (x : Int) (l : Int) = ((x % 2 ^ r * 2 ^ l : Nat) : Int) := by
  have hp : 2 ^ r * 2 ^ l = 4294967296 := by rw [← Nat.pow_add, Nat.add_comm, hl]
  unfold shl
  have em : min (((l : Nat) : Int).toNat) (IntKind.u32.bits) = l := by rw [Int.toNat_natCast]; show min l 32 = l; omega
  rw [em, IntKind.wrap_u32, show ((x : Int) * 2 ^ l) = ((x * 2 ^ l : Nat) : Int) by simp, ← Nat.mul_mod_mul_right, hp]
  generalize x * 2 ^ l = z
  omega
theorem rot_lt (x l r : Nat) (hx : x < 4294967296) (hl : l + r = 32) : x % 2 ^ r * 2 ^ l + x / 2 ^ r < 4294967296 ∧ x / 2 ^ r < 2 ^ l := by
  have hp : 2 ^ r * 2 ^ l = 4294967296 := by rw [← Nat.pow_add, Nat.add_comm, hl]
  have hlt : x / 2 ^ r < 2 ^ l := Nat.div_lt_of_lt_mul (by rw [hp]; exact hx)
  have hm : x % 2 ^ r < 2 ^ r := Nat.mod_lt _ (Nat.pow_pos (by decide))
  have h2 : (x % 2 ^ r + 1) * 2 ^ l ≤ 2 ^ r * 2 ^ l := Nat.mul_le_mul_right _ hm
  rw [Nat.add_mul, Nat.one_mul, hp] at h2
  generalize x % 2 ^ r * 2 ^ l = p at *
  generalize x / 2 ^ r = q at *
  generalize 2 ^ l = z at *
  exact ⟨by omega, hlt⟩
theorem rot_nat (x l r : Nat) (hx : x < 4294967296) (hl : l + r = 32) : rotR (x : Int) (l : Int) (r : Int) = ((x % 2 ^ r * 2 ^ l + x / 2 ^ r : Nat) : Int) := by
  have hr : shr .u32 (x : Int) (r : Int) = ((x / 2 ^ r : Nat) : Int) := shr_nat .u32 x r _ rfl (by simp [IntKind.bits]; omega)
  obtain ⟨h1, h2⟩ := rot_lt x l r hx hl
  have hd : x % 2 ^ r * 2 ^ l % 2 ^ l = 0 := Nat.mul_mod_left _ _
  unfold rotR
  rw [shl_nat x l r hl, hr]
  generalize x % 2 ^ r * 2 ^ l = p at *
  generalize x / 2 ^ r = q at *
  rw [u32_or_nat _ _ (by omega) (by omega), nat_join l _ _ hd h2]
theorem right_nat (x l r : Nat) (hx : x < 4294967296) (hl : l + r = 32) : q04_right.f (x : Int) (r : Int) = some (rotR (x : Int) (l : Int) (r : Int)) := by
  rw [rot_nat x l r hx hl]
  have hr : shr .u32 (x : Int) (r : Int) = ((x / 2 ^ r : Nat) : Int) := shr_nat .u32 x r _ rfl (by simp [IntKind.bits]; omega)
  obtain ⟨h1, h2⟩ := rot_lt x l r hx hl
  unfold q04_right.f
  have e1 : (32 - (r : Int)) % 4294967296 = (l : Int) := by omega
  rw [if_pos (by omega), e1, shl_nat x l r hl, hr]
  generalize x % 2 ^ r * 2 ^ l = p at *
  generalize x / 2 ^ r = q at *
  congr 1
  omega
theorem right_eq {x : Int} (hx : W32 x) (l r : Nat) (hl : l + r = 32) : q04_right.f x (r : Int) = some (rotR x (l : Int) (r : Int)) := by
  obtain ⟨n, rfl, hn⟩ := hx.nat
  exact right_nat n l r hn hl
theorem r7 {x : Int} (h : W32 x) : q04_right.f x 7 = some (rotR x 25 7) := right_eq h 25 7 rfl
theorem r18 {x : Int} (h : W32 x) : q04_right.f x 18 = some (rotR x 14 18) := right_eq h 14 18 rfl
theorem r17 {x : Int} (h : W32 x) : q04_right.f x 17 = some (rotR x 15 17) := right_eq h 15 17 rfl
theorem r19 {x : Int} (h : W32 x) : q04_right.f x 19 = some (rotR x 13 19) := right_eq h 13 19 rfl
theorem r2 {x : Int} (h : W32 x) : q04_right.f x 2 = some (rotR x 30 2) := right_eq h 30 2 rfl
theorem r13 {x : Int} (h : W32 x) : q04_right.f x 13 = some (rotR x 19 13) := right_eq h 19 13 rfl
theorem r22 {x : Int} (h : W32 x) : q04_right.f x 22 = some (rotR x 10 22) := right_eq h 10 22 rfl
theorem r6 {x : Int} (h : W32 x) : q04_right.f x 6 = some (rotR x 26 6) := right_eq h 26 6 rfl
theorem r11 {x : Int} (h : W32 x) : q04_right.f x 11 = some (rotR x 21 11) := right_eq h 21 11 rfl
theorem r25 {x : Int} (h : W32 x) : q04_right.f x 25 = some (rotR x 7 25) := right_eq h 7 25 rfl
theorem small_r {x : Int} (h : W32 x) : Go.bits .xor .u32 (Go.bits .xor .u32 (rotR x 25 7) (rotR x 14 18)) (Int.tdiv x 8 % 4294967296) = smallW x := by
  unfold smallW
  congr 1
  obtain ⟨n, rfl, hn⟩ := h.nat
  rw [show shr .u32 (n : Int) 3 = ((n / 2 ^ 3 : Nat) : Int) from shr_nat .u32 n 3 _ rfl (by decide), Int.tdiv_eq_ediv_of_nonneg (by omega)]
  omega
theorem great_r {x : Int} (h : W32 x) : Go.bits .xor .u32 (Go.bits .xor .u32 (rotR x 15 17) (rotR x 13 19)) (Int.tdiv x 1024 % 4294967296) = greatW x := by
  unfold greatW
  congr 1
  obtain ⟨n, rfl, hn⟩ := h.nat
  rw [show shr .u32 (n : Int) 10 = ((n / 2 ^ 10 : Nat) : Int) from shr_nat .u32 n 10 _ rfl (by decide), Int.tdiv_eq_ediv_of_nonneg (by omega)]
  omega
theorem andNot_r {x y : Int} (hx : W32 x) (hy : W32 y) : Go.bits .and .u32 ((4294967295 - x) % 4294967296) y = Go.bits .andNot .u32 y x := by
  obtain ⟨a, rfl, ha⟩ := hx.nat; obtain ⟨b, rfl, hb⟩ := hy.nat
  rw [u32_andNot_nat b a hb ha, show (4294967295 - (a : Int)) % 4294967296 = ((4294967295 - a : Nat) : Int) by omega, u32_and_nat _ _ (by omega) hb, Nat.and_comm]
theorem nextW_W {l ws : List Int} (i : Int) (hl : Ws l) : W32 (nextW l ws i) := by
  unfold nextW
  split
  · exact W32.or (W32.or (W32.or (W32.mod _) (W32.mod _)) (W32.mod _)) (W32.mod _)
  · exact W32.mod _
theorem schedW_Ws {l : List Int} (hl : Ws l) : ∀ n, Ws (schedW l n)
  | 0 => fun x hx => by simp [schedW] at hx
  | n + 1 => fun x hx => by
    rw [schedW, List.mem_append] at hx
    rcases hx with hx | hx
    · exact schedW_Ws hl n x hx
    · rw [List.mem_singleton] at hx; subst hx; exact nextW_W _ hl
theorem stepV_Ws {kk ws v : List Int} (i : Int) (hv : Ws v) : Ws (stepV kk ws v i) := by
  intro x hx
  simp only [stepV, List.mem_cons, List.not_mem_nil, or_false] at hx
  rcases hx with rfl | rfl | rfl | rfl | rfl | rfl | rfl | rfl
  all_goals first | exact W32.mod _ | exact hv.rd _
theorem roundsV_Ws {h kk ws : List Int} (hh : Ws h) : ∀ n, Ws (roundsV h kk ws n)
  | 0 => hh
  | n + 1 => stepV_Ws _ (roundsV_Ws hh n)
theorem sumV_Ws {h v : List Int} (i : Nat) (hh : Ws h) : Ws (sumV h v i) := by
  intro x hx
  unfold sumV at hx
  obtain ⟨j, _, rfl⟩ := List.mem_map.1 hx
  split
  · exact W32.mod _
  · exact hh.rd _
theorem blockV_Ws {h kk l : List Int} (hh : Ws h) : Ws (blockV h kk l) := sumV_Ws _ hh
theorem blockV_length (h kk l : List Int) : (blockV h kk l).length = 8 := sumV_length _ _ _
end Go.Proofs.YtbnkcbfhappgnaaDoor.Pure
namespace Go.Proofs.YtbnkcbfhappgnaaDoor.Pure
open Go.RowKit Go.Proofs.YtbnkcbfhappgnaaDoor.Fn Go.Proofs.YtbnkcbfhappgnaaDoorW.PrintWords Go.Proofs.YtbnkcbfhappgnaaDoorW.PrintLast Go.Proofs.YtbnkcbfhappgnaaDoor.U
set_option linter.unusedVariables false
set_option linter.unusedSimpArgs false
theorem into_l0 (h b : List Int) (hb : b.length = 64) (hbW : Ws b) (hh : h.length = 8) (r : List Int) (H : Ev (fun k => q04_into.l1 k h (schedW b 64) kWords h 0) r) (d : Nat) : ∀ i : Nat, i + d = 64 →
    Ev (fun k => q04_into.l0 k h b (schedW b i) (i : Int)) r := by
  induction d with
  | zero =>
    intro i hi
    obtain rfl : i = 64 := by omega
    refine Ev.step (fun k => ?_) H
    simp only [q04_into.l0]
    rw [if_neg (by decide)]
    show (some _).bind _ = _
    rw [Option.bind_some, Option.bind_some, if_pos (by rw [hh]; decide)]; rfl
  | succ d ih =>
    intro i hi
    have hl := schedW_length b i
    refine Ev.step (fun k => ?_) (ih (i + 1) (by omega))
    simp only [q04_into.l0]
    have ei : wrap64 ((i : Int) + 1) = ((i + 1 : Nat) : Int) := by rw [w64 (by omega) (by omega)]; omega
    rw [if_pos (show (i : Int) < 64 by omega), ei]
    by_cases h16 : (i : Int) < 16
    · have e0 : wrap64 (4 * (i : Int)) = 4 * i := w64 (by omega) (by omega)
      have e1 : wrap64 (4 * (i : Int) + 1) = 4 * i + 1 := w64 (by omega) (by omega)
      have e2 : wrap64 (4 * (i : Int) + 2) = 4 * i + 2 := w64 (by omega) (by omega)
      have e3 : wrap64 (4 * (i : Int) + 3) = 4 * i + 3 := w64 (by omega) (by omega)
      rw [if_pos h16, e0, e1, e2, e3, if_pos (by omega), if_pos (by omega), if_pos (by omega), if_pos (by omega), if_pos (by omega), if_pos (by omega), if_pos (by omega), if_pos (by omega), if_pos (by omega), schedW, nextW, if_pos h16]
    · have e0 : wrap64 ((i : Int) - 15) = i - 15 := w64 (by omega) (by omega)
      have e1 : wrap64 ((i : Int) - 2) = i - 2 := w64 (by omega) (by omega)
      have e2 : wrap64 ((i : Int) - 16) = i - 16 := w64 (by omega) (by omega)
      have e3 : wrap64 ((i : Int) - 7) = i - 7 := w64 (by omega) (by omega)
      have hW := schedW_Ws hbW i
      rw [if_neg h16, e0, e1, e2, e3, if_pos (by omega), if_pos (by omega), if_pos (by omega), if_pos (by omega), r7 (hW.rd _), Option.bind_some, r18 (hW.rd _), Option.bind_some, r17 (hW.rd _), Option.bind_some, r19 (hW.rd _), Option.bind_some, if_pos (by omega), if_pos (by omega), if_pos (by omega), if_pos (by omega), if_pos (by omega), small_r (hW.rd _), great_r (hW.rd _), schedW, nextW, if_neg h16]
def mixV (h v : List Int) (i : Nat) : List Int := (List.range 8).map fun j => if j < i then (rd v j + rd h j) % 4294967296 else rd v j
theorem mixV_length (h v : List Int) (i : Nat) : (mixV h v i).length = 8 := by simp [mixV]
theorem mixV_get (h v : List Int) (i j : Nat) (hj : j < 8) : (mixV h v i)[j]? = some (if j < i then (rd v j + rd h j) % 4294967296 else rd v j) := by simp [mixV, hj]
theorem mixV_zero (h v : List Int) (hv : v.length = 8) : mixV h v 0 = v := by
  apply List.ext_getElem?; intro j
  by_cases hj : j < 8
  · rw [mixV_get h v 0 j hj, if_neg (by omega), List.getElem?_eq_getElem (by omega)]
    simp [rd, hv, hj]
  · rw [List.getElem?_eq_none (by rw [mixV_length]; omega), List.getElem?_eq_none (by omega)]
theorem mixV_rd (h v : List Int) (i : Nat) (hi : i < 8) : rd (mixV h v i) (i : Int) = rd v i := by
  unfold rd
  rw [List.getD_eq_getElem?_getD, Int.toNat_natCast, mixV_get h v i i hi, if_neg (by omega)]; rfl
theorem mixV_set (h v : List Int) (i : Nat) : (mixV h v i).set i ((rd v i + rd h i) % 4294967296) = mixV h v (i + 1) := by
  apply List.ext_getElem?; intro j
  by_cases hj : j < 8
  · rw [List.getElem?_set, mixV_length, mixV_get h v _ j hj, mixV_get h v _ j hj]
    by_cases e : i = j
    · subst e; rw [if_pos rfl, if_pos hj, if_pos (by omega)]
    · rw [if_neg e]; congr 1
      by_cases e2 : j < i
      · rw [if_pos e2, if_pos (by omega)]
      · rw [if_neg e2, if_neg (by omega)]
  · rw [List.getElem?_eq_none (by rw [List.length_set, mixV_length]; omega), List.getElem?_eq_none (by rw [mixV_length]; omega)]
theorem mixV_all (h v : List Int) : mixV h v 8 = sumV h v 8 := by
  unfold mixV sumV
  apply List.map_congr_left
  intro j hj
  have : j < 8 := by simpa using hj
  rw [if_pos this, if_pos this, Int.add_comm]
theorem into_l2 (h v : List Int) (hh : h.length = 8) (d : Nat) : ∀ i : Nat, i + d = 8 → Ev (fun k => q04_into.l2 k h (mixV h v i) (i : Int)) (sumV h v 8) := by
  induction d with
  | zero =>
    intro i hi
    obtain rfl : i = 8 := by omega
    refine Ev.step (fun k => ?_) (Ev.now _)
    simp only [q04_into.l2]
    rw [if_neg (by decide), mixV_all]
  | succ d ih =>
    intro i hi
    refine Ev.step (fun k => ?_) (ih (i + 1) (by omega))
    simp only [q04_into.l2]
    have ei : wrap64 ((i : Int) + 1) = ((i + 1 : Nat) : Int) := by rw [w64 (by omega) (by omega)]; omega
    rw [if_pos (by omega), if_pos (by omega), if_pos (by rw [mixV_length]; omega), if_pos (by omega), ei, mixV_rd h v i (by omega), Int.toNat_natCast, mixV_set h v i]
theorem into_l1 (h ws : List Int) (hh : h.length = 8) (hW : Ws h) (hw : ws.length = 64) (d : Nat) : ∀ i : Nat, i + d = 64 →
    Ev (fun k => q04_into.l1 k h ws kWords (roundsV h kWords ws i) (i : Int)) (sumV h (roundsV h kWords ws 64) 8) := by
  induction d with
  | zero =>
    intro i hi
    obtain rfl : i = 64 := by omega
    refine Ev.step (fun k => ?_) (by have := into_l2 h (roundsV h kWords ws 64) hh 8 0 rfl; rw [mixV_zero _ _ (roundsV_length _ _ _ hh _)] at this; exact this)
    simp only [q04_into.l1]
    rw [if_neg (by decide)]; rfl
  | succ d ih =>
    intro i hi
    refine Ev.step (fun k => ?_) (ih (i + 1) (by omega))
    have hl := roundsV_length h kWords ws hh i
    have hV := roundsV_Ws (kk := kWords) (ws := ws) hW i
    have hk : kWords.length = 64 := rfl
    simp only [q04_into.l1]
    have ei : wrap64 ((i : Int) + 1) = ((i + 1 : Nat) : Int) := by rw [w64 (by omega) (by omega)]; omega
    rw [roundsV]
    generalize roundsV h kWords ws i = v at *
    rw [if_pos (by omega), if_pos (by omega), if_pos (by omega), if_pos (by omega), if_pos (by omega), if_pos (by omega), if_pos (by omega), if_pos (by omega), r6 (hV.rd _), Option.bind_some, r11 (hV.rd _), Option.bind_some, r25 (hV.rd _), Option.bind_some, if_pos (by omega), if_pos (by omega), if_pos (by omega), r2 (hV.rd _), Option.bind_some, r13 (hV.rd _), Option.bind_some, r22 (hV.rd _), Option.bind_some, if_pos (by omega), ei, andNot_r (hV.rd _) (hV.rd _)]
    rfl
theorem into_ev (h b : List Int) (hh : h.length = 8) (hW : Ws h) (hb : b.length = 64) (hbW : Ws b) : Ev (fun k => q04_into.f k h b) (blockV h kWords b) :=
  into_l0 h b hb hbW hh _ (into_l1 h (schedW b 64) hh hW (schedW_length _ _) 64 0 rfl) 64 0 rfl
theorem eatV_stop (kk h all : List Int) (n : Nat) (hn : ¬ 64 ≤ all.length) : eatV kk n h all = (h, all) := by
  cases n with
  | zero => rfl
  | succ n => rw [eatV, if_neg hn]
theorem write_l0 (l1 H0 B0 all : List Int) (n0 : Int) (hA : Ws all) (hall : all.length < 140737488355328) (f : Nat) : ∀ (h : List Int) (p : Nat), Ws h → h.length = 8 → p ≤ all.length → all.length ≤ p + f →
    Ev (fun k => q04_Write.l0 k l1 h all (p : Int) H0 B0 n0) ((eatV kWords f h (all.drop p)).1, (eatV kWords f h (all.drop p)).2, IntKind.u64.wrap (n0 + IntKind.u64.wrap (l1.length : Int))) := by
  induction f with
  | zero =>
    intro h p hW hh hp hf
    refine Ev.step (fun k => ?_) (Ev.now _)
    simp only [q04_Write.l0]
    have e0 : wrap64 ((all.length : Int) - p) = (all.length : Int) - p := w64 (by omega) (by omega)
    rw [e0, if_neg (by omega), Option.bind_some, if_pos (by omega), if_pos (by omega), Option.bind_some, if_pos (by simp; omega), Int.toNat_natCast]; rfl
  | succ f ih =>
    intro h p hW hh hp hf
    have e0 : wrap64 ((all.length : Int) - p) = (all.length : Int) - p := w64 (by omega) (by omega)
    by_cases h64 : p + 64 ≤ all.length
    · have e1 : wrap64 ((p : Int) + 64) = ((p + 64 : Nat) : Int) := by rw [w64 (by omega) (by omega)]; omega
      have hlen : ((all.take (p + 64)).drop p).length = 64 := by rw [List.length_drop, List.length_take]; omega
      have hs : (all.take (p + 64)).drop p = (all.drop p).take 64 := by rw [List.drop_take]; congr 1; omega
      have hin := into_ev h ((all.take (p + 64)).drop p) hh hW hlen (fun x hx => hA x (List.mem_of_mem_take (List.mem_of_mem_drop hx)))
      have hrec := ih (blockV h kWords ((all.take (p + 64)).drop p)) (p + 64) (blockV_Ws hW) (blockV_length _ _ _) h64 (by omega)
      have key : eatV kWords (f + 1) h (all.drop p) = eatV kWords f (blockV h kWords ((all.take (p + 64)).drop p)) (all.drop (p + 64)) := by
        rw [eatV, if_pos (by rw [List.length_drop]; omega), hs, List.drop_drop]
      rw [key]
      refine Ev.step (fun k => ?_) (Ev.bind (f := fun k t => q04_Write.l0 k l1 t all ((p + 64 : Nat) : Int) H0 B0 n0) hin hrec)
      · simp only [q04_Write.l0]
        rw [e0, e1, if_pos (by omega), if_pos (by omega), if_pos (by omega), if_pos (by omega), Int.toNat_natCast, Int.toNat_natCast]
    · refine Ev.step (fun k => ?_) (Ev.now _)
      simp only [q04_Write.l0]
      rw [e0, if_neg (by omega), Option.bind_some, if_pos (by omega), if_pos (by omega), Option.bind_some, if_pos (by simp; omega), Int.toNat_natCast, eatV_stop _ _ _ _ (by rw [List.length_drop]; omega)]; rfl
theorem refWrite_ev (H B l : List Int) (n : Int) (hW : Ws H) (hB : Ws B) (hl : Ws l) {r : List Int × List Int × Int} (h : sha_Write.f H B n l = some r) : Ev (fun k => q04_Write.f k H B n l) r := by
  unfold sha_Write.f at h
  replace h := Option.bind_eq_some_iff.mp h
  obtain ⟨t, ht, h⟩ := h
  have ht' : q04_Check.f H B n = some t := ht
  cases t with
  | false =>
    rw [if_neg (by decide)] at h
    refine Ev.congr (fun k => ?_) (Ev.now r)
    unfold q04_Write.f
    rw [ht', Option.bind_some, if_neg (by decide), h]
  | true =>
    rw [if_pos rfl] at h
    by_cases hlen : B.length + l.length < 140737488355328
    · rw [if_pos hlen] at h
      have h8 := sha_Check_len ht
      have hw := write_l0 l H B (B ++ l) n (fun x hx => (List.mem_append.1 hx).elim (hB x) (hl x)) (by rw [List.length_append]; exact hlen) (B ++ l).length H 0 hW h8 (Nat.zero_le _) (by omega)
      rw [List.drop_zero] at hw
      rw [← Option.some.inj h]
      refine Ev.congr (fun k => ?_) hw
      unfold q04_Write.f
      rw [ht', Option.bind_some, if_pos rfl, Option.bind_some, if_pos (by simp; omega), Option.bind_some, if_pos (by simp; omega), Option.bind_some, if_pos (by simp; omega)]; rfl
    · rw [if_neg hlen] at h; cases h
theorem eatV_Ws (kk : List Int) : ∀ (n : Nat) (h all : List Int), Ws h → Ws all → Ws (eatV kk n h all).1 ∧ Ws (eatV kk n h all).2
  | 0, h, all, hh, ha => ⟨hh, ha⟩
  | n + 1, h, all, hh, ha => by
    rw [eatV]
    split
    · exact eatV_Ws kk n _ _ (blockV_Ws hh) (fun x hx => ha x (List.mem_of_mem_drop hx))
    · exact ⟨hh, ha⟩
theorem eatV_length (kk : List Int) : ∀ (n : Nat) (h all : List Int), h.length = 8 → all.length ≤ n → (eatV kk n h all).1.length = 8 ∧ (eatV kk n h all).2.length = all.length % 64
  | 0, h, all, hh, ha => ⟨hh, by show all.length = _; omega⟩
  | n + 1, h, all, hh, ha => by
    rw [eatV]
    split
    · obtain ⟨h1, h2⟩ := eatV_length kk n (blockV h kk (all.take 64)) (all.drop 64) (blockV_length _ _ _) (by rw [List.length_drop]; omega)
      exact ⟨h1, by rw [h2, List.length_drop]; omega⟩
    · exact ⟨hh, by show all.length = _; omega⟩
end Go.Proofs.YtbnkcbfhappgnaaDoor.Pure
namespace Go.Proofs.YtbnkcbfhappgnaaDoor.Pure
open Go.RowKit Go.Proofs.YtbnkcbfhappgnaaDoor.Fn Go.Proofs.YtbnkcbfhappgnaaDoorW.PrintWords Go.Proofs.YtbnkcbfhappgnaaDoorW.PrintLast Go.Proofs.YtbnkcbfhappgnaaDoor.U
set_option linter.unusedVariables false
set_option linter.unusedSimpArgs false
def bytes8 (n : Int) (i : Nat) : List Int := (List.range i).map fun j => shr .u64 (IntKind.u64.wrap (n * 8)) ((56 - 8 * j : Nat) : Int) % 256
theorem bytes8_succ (n : Int) (i : Nat) : bytes8 n (i + 1) = bytes8 n i ++ [shr .u64 (IntKind.u64.wrap (n * 8)) ((56 - 8 * i : Nat) : Int) % 256] := by
  unfold bytes8; rw [List.range_succ, List.map_append]; rfl
def padV (B : List Int) : List Int := 128 :: List.replicate ((119 - B.length) % 64) 0
def tailV (B : List Int) (n : Int) : List Int := padV B ++ bytes8 n 8
def outV (h : List Int) : List Int := h.flatMap fun x => [x / 16777216 % 256, x / 65536 % 256, x / 256 % 256, x % 256]
theorem outV_length : ∀ h : List Int, (outV h).length = 4 * h.length
  | [] => rfl
  | x :: h => by
    have := outV_length h
    unfold outV at *
    rw [List.flatMap_cons, List.length_append, this]
    simp; omega
theorem outV_take (h : List Int) (i : Nat) (hi : i < h.length) : outV (h.take (i + 1)) = outV (h.take i) ++ [rd h i / 16777216 % 256, rd h i / 65536 % 256, rd h i / 256 % 256, rd h i % 256] := by
  have e : rd h (i : Int) = h[i] := by unfold rd; rw [Int.toNat_natCast, List.getD_eq_getElem?_getD, List.getElem?_eq_getElem hi]; rfl
  rw [List.take_succ_eq_append_getElem hi, e]
  unfold outV
  rw [List.flatMap_append]; rfl
def doneV (H B : List Int) (n : Int) : List Int := outV (eatV kWords (B ++ tailV B n).length H (B ++ tailV B n)).1
theorem bytes8_range (n : Int) (i : Nat) : ∀ x ∈ bytes8 n i, 0 ≤ x ∧ x < 256 := by
  intro x hx
  unfold bytes8 at hx
  obtain ⟨j, _, rfl⟩ := List.mem_map.1 hx
  omega
theorem tailV_range (B : List Int) (n : Int) : ∀ x ∈ tailV B n, 0 ≤ x ∧ x < 256 := by
  intro x hx
  unfold tailV padV at hx
  rw [List.mem_append, List.mem_cons, List.mem_replicate] at hx
  rcases hx with (rfl | ⟨_, rfl⟩) | hx
  · omega
  · omega
  · exact bytes8_range _ _ x hx
theorem outV_range (h : List Int) : ∀ x ∈ outV h, 0 ≤ x ∧ x < 256 := by
  intro x hx
  unfold outV at hx
  obtain ⟨y, _, hx⟩ := List.mem_flatMap.1 hx
  simp only [List.mem_cons, List.not_mem_nil, or_false] at hx
  rcases hx with rfl | rfl | rfl | rfl <;> omega
theorem check_nat {H B : List Int} {n : Int} (h : sha_Check.f H B n = some true) : H.length = 8 ∧ B.length < 64 ∧ IntKind.u64.wrap (B.length : Int) = Int.tmod n 64 := by
  unfold sha_Check.f at h
  by_cases h8 : (H.length : Int) = 8
  · rw [if_pos h8] at h
    by_cases hB : (B.length : Int) < 64
    · rw [if_pos hB] at h
      exact ⟨by omega, by omega, by simpa using h⟩
    · rw [if_neg hB] at h; cases h
  · rw [if_neg h8] at h; cases h
theorem bytes8_length (n : Int) (i : Nat) : (bytes8 n i).length = i := by simp [bytes8]
theorem padV_length (B : List Int) : (padV B).length = 1 + (119 - B.length) % 64 := by simp [padV]; omega
theorem write_some {H B l : List Int} {n : Int} (h : sha_Check.f H B n = some true) (hl : B.length + l.length < 140737488355328) :
    sha_Write.f H B n l = some ((eatV kWords (B ++ l).length H (B ++ l)).1, (eatV kWords (B ++ l).length H (B ++ l)).2, IntKind.u64.wrap (n + IntKind.u64.wrap (l.length : Int))) := by
  unfold sha_Write.f
  rw [h, Option.bind_some, if_pos rfl, if_pos hl]
theorem done_l1 (h : List Int) (hh : h.length = 8) (d : Nat) : ∀ i : Nat, i + d = 8 → Ev (fun k => sha_Done.l1 k (outV (h.take i)) h (h.length : Int) (i : Int)) (outV h) := by
  induction d with
  | zero =>
    intro i hi
    obtain rfl : i = 8 := by omega
    refine Ev.step (fun k => ?_) (Ev.now _)
    simp only [sha_Done.l1]
    rw [if_neg (by omega), List.take_of_length_le (by omega)]
  | succ d ih =>
    intro i hi
    refine Ev.step (fun k => ?_) (ih (i + 1) (by omega))
    have ei : wrap64 ((i : Int) + 1) = ((i + 1 : Nat) : Int) := by rw [w64 (by omega) (by omega)]; omega
    simp only [sha_Done.l1]
    rw [if_pos (by omega), if_pos (by omega), if_pos (by omega), Option.bind_some, if_pos (by rw [outV_length, List.length_take]; simp; omega), ei, outV_take h i (by omega)]
theorem done_l0 (H B p : List Int) (n : Int) (hp : p.length ≤ 65) (r : List Int) (Hr : Ev (fun k => (sha_Write.f H B n (p ++ bytes8 n 8)).bind fun bt => sha_Done.l1 k ([] : List Int) bt.1 (bt.1.length : Int) 0) r) (d : Nat) : ∀ i : Nat, i + d = 8 →
    Ev (fun k => sha_Done.l0 k (p ++ bytes8 n i) (i : Int) H B n) r := by
  induction d with
  | zero =>
    intro i hi
    obtain rfl : i = 8 := by omega
    refine Ev.step (fun k => ?_) Hr
    simp only [sha_Done.l0]
    rw [if_neg (by decide)]
  | succ d ih =>
    intro i hi
    refine Ev.step (fun k => ?_) (ih (i + 1) (by omega))
    have ei : wrap64 ((i : Int) + 1) = ((i + 1 : Nat) : Int) := by rw [w64 (by omega) (by omega)]; omega
    have e8 : wrap64 (8 * (i : Int)) = 8 * i := w64 (by omega) (by omega)
    have e56 : wrap64 (56 - (8 * (i : Int))) = ((56 - 8 * i : Nat) : Int) := by rw [w64 (by omega) (by omega)]; omega
    simp only [sha_Done.l0]
    rw [if_pos (by omega), e8, e56, if_pos (by omega), if_pos (by rw [List.length_append, bytes8_length]; omega), ei, bytes8_succ, List.append_assoc]
theorem shaDone_ev (H B : List Int) (n : Int) (h : sha_Check.f H B n = some true) : Ev (fun k => sha_Done.f k H B n) (doneV H B n) := by
  obtain ⟨h8, hB, _⟩ := check_nat h
  have hlen : B.length + (tailV B n).length < 140737488355328 := by unfold tailV; rw [List.length_append, bytes8_length, padV_length]; omega
  have hw := write_some h hlen
  have hl := (eatV_length kWords (B ++ tailV B n).length H (B ++ tailV B n) h8 (Nat.le_refl _)).1
  have hz : (119 - (B.length : Int)).tmod 64 = (((119 - B.length) % 64 : Nat) : Int) := by rw [Int.tmod_eq_emod_of_nonneg (by omega)]; omega
  have e1 : wrap64 (119 - (B.length : Int)) = 119 - (B.length : Int) := w64 (by omega) (by omega)
  have e2 : wrap64 (1 + (((119 - B.length) % 64 : Nat) : Int)) = ((1 + (119 - B.length) % 64 : Nat) : Int) := by rw [w64 (by omega) (by omega)]; omega
  have e3 : (List.replicate (1 + (119 - B.length) % 64) (0 : Int)).set 0 128 = padV B ++ bytes8 n 0 := by
    rw [show bytes8 n 0 = [] from rfl, List.append_nil, Nat.add_comm, List.replicate_succ]; rfl
  have hdn : doneV H B n = outV (eatV kWords (B ++ tailV B n).length H (B ++ tailV B n)).1 := rfl
  rw [hdn]
  clear hdn
  generalize eatV kWords (B ++ tailV B n).length H (B ++ tailV B n) = E at *
  have hd := done_l1 E.1 hl 8 0 rfl
  rw [List.take_zero, show outV [] = [] from rfl] at hd
  have hw2 : Ev (fun k => (sha_Write.f H B n (padV B ++ bytes8 n 8)).bind fun bt => sha_Done.l1 k ([] : List Int) bt.1 (bt.1.length : Int) 0) (outV E.1) := by
    refine Ev.congr (fun k => ?_) hd
    rw [show padV B ++ bytes8 n 8 = tailV B n from rfl, hw, Option.bind_some, Int.natCast_zero]
  have hm := done_l0 H B (padV B) n (by rw [padV_length]; omega) (outV E.1) hw2 8 0 rfl
  rw [Int.natCast_zero] at hm
  refine Ev.congr (fun k => ?_) hm
  unfold sha_Done.f
  rw [h, Option.bind_some, if_pos rfl, e1, hz, e2, if_pos (by omega), if_pos (by omega), Option.bind_some, Int.toNat_natCast, if_pos (by rw [List.length_replicate]; omega), show ((0 : Int).toNat) = 0 from rfl, e3]
theorem rdone_l2 (h y : List Int) (z : Int) (hh : h.length = 8) (d : Nat) : ∀ i : Nat, i + d = 8 → Ev (fun k => q04_Done.l2 k (outV (h.take i)) (i : Int) h y z) (outV h) := by
  induction d with
  | zero =>
    intro i hi
    obtain rfl : i = 8 := by omega
    refine Ev.step (fun k => ?_) (Ev.now _)
    simp only [q04_Done.l2]
    rw [if_neg (by decide), List.take_of_length_le (by omega)]
  | succ d ih =>
    intro i hi
    refine Ev.step (fun k => ?_) (ih (i + 1) (by omega))
    have ei : wrap64 ((i : Int) + 1) = ((i + 1 : Nat) : Int) := by rw [w64 (by omega) (by omega)]; omega
    simp only [q04_Done.l2]
    rw [if_pos (by omega), if_pos (by omega), if_pos (by omega), Option.bind_some, if_pos (by rw [outV_length, List.length_take]; simp; omega), ei, outV_take h i (by omega)]
theorem rdone_l1 (H B p : List Int) (n : Int) (hp : p.length ≤ 65) (r : List Int) (Hr : Ev (fun k => (q04_Write.f k H B n (p ++ bytes8 n 8)).bind fun bt => q04_Done.l2 k ([] : List Int) 0 bt.1 bt.2.1 bt.2.2) r) (d : Nat) : ∀ i : Nat, i + d = 8 →
    Ev (fun k => q04_Done.l1 k (p ++ bytes8 n i) (IntKind.u64.wrap (n * 8)) (7 - (i : Int)) H B n) r := by
  induction d with
  | zero =>
    intro i hi
    obtain rfl : i = 8 := by omega
    refine Ev.step (fun k => ?_) Hr
    simp only [q04_Done.l1]
    rw [if_neg (by decide)]
  | succ d ih =>
    intro i hi
    refine Ev.step (fun k => ?_) (ih (i + 1) (by omega))
    have ei : wrap64 ((7 - (i : Int)) - 1) = 7 - ((i + 1 : Nat) : Int) := by rw [w64 (by omega) (by omega)]; omega
    have e8 : IntKind.u64.wrap (wrap64 (8 * (7 - (i : Int)))) = ((56 - 8 * i : Nat) : Int) := by rw [w64 (by omega) (by omega), IntKind.wrap_u64]; omega
    simp only [q04_Done.l1]
    rw [if_pos (by omega), e8, if_pos (by omega), if_pos (by rw [List.length_append, bytes8_length]; omega), ei, bytes8_succ, List.append_assoc]
theorem rdone_l0 (H B : List Int) (n : Int) (hB : B.length < 64) (r : List Int) (Hr : Ev (fun k => q04_Done.l1 k (padV B) (IntKind.u64.wrap (n * 8)) 7 H B n) r) (d : Nat) : ∀ i : Nat, i + d = (119 - B.length) % 64 →
    Ev (fun k => q04_Done.l0 k (128 :: List.replicate i 0) H B n) r := by
  induction d with
  | zero =>
    intro i hi
    obtain rfl : i = (119 - B.length) % 64 := by omega
    refine Ev.step (fun k => ?_) Hr
    simp only [q04_Done.l0]
    have e1 : wrap64 ((B.length : Int) + ((128 :: List.replicate ((119 - B.length) % 64) (0 : Int)).length : Int)) = (B.length : Int) + 1 + ((119 - B.length) % 64 : Nat) := by
      rw [List.length_cons, List.length_replicate, w64 (by omega) (by omega)]; omega
    rw [e1, if_pos (by rw [Int.tmod_eq_emod_of_nonneg (by omega)]; omega)]; rfl
  | succ d ih =>
    intro i hi
    refine Ev.step (fun k => ?_) (ih (i + 1) (by omega))
    have e1 : wrap64 ((B.length : Int) + ((128 :: List.replicate i (0 : Int)).length : Int)) = (B.length : Int) + 1 + i := by
      rw [List.length_cons, List.length_replicate, w64 (by omega) (by omega)]; omega
    have e2 : (128 :: List.replicate i (0 : Int)) ++ [0] = 128 :: List.replicate (i + 1) 0 := by rw [List.replicate_succ', List.cons_append]
    simp only [q04_Done.l0]
    rw [e1, if_neg (by rw [Int.tmod_eq_emod_of_nonneg (by omega)]; omega), if_pos (by rw [List.length_cons, List.length_replicate]; omega), e2]
theorem refDone_ev (H B : List Int) (n : Int) (hW : Ws H) (hBW : Ws B) (h : sha_Check.f H B n = some true) : Ev (fun k => q04_Done.f k H B n) (doneV H B n) := by
  obtain ⟨h8, hB, _⟩ := check_nat h
  have hlen : B.length + (tailV B n).length < 140737488355328 := by unfold tailV; rw [List.length_append, bytes8_length, padV_length]; omega
  have hw := refWrite_ev H B (tailV B n) n hW hBW (fun x hx => by have := tailV_range B n x hx; exact ⟨this.1, by omega⟩) (write_some h hlen)
  have hl := (eatV_length kWords (B ++ tailV B n).length H (B ++ tailV B n) h8 (Nat.le_refl _)).1
  have hdn : doneV H B n = outV (eatV kWords (B ++ tailV B n).length H (B ++ tailV B n)).1 := rfl
  rw [hdn]
  clear hdn
  generalize eatV kWords (B ++ tailV B n).length H (B ++ tailV B n) = E at *
  have hd := rdone_l2 E.1 E.2 (IntKind.u64.wrap (n + IntKind.u64.wrap ((tailV B n).length : Int))) hl 8 0 rfl
  rw [List.take_zero, show outV [] = [] from rfl, Int.natCast_zero] at hd
  have h1 := rdone_l1 H B (padV B) n (by rw [padV_length]; omega) (outV E.1) (Ev.bind (f := fun k bt => q04_Done.l2 k ([] : List Int) 0 bt.1 bt.2.1 bt.2.2) (a := (E.1, E.2, IntKind.u64.wrap (n + IntKind.u64.wrap ((tailV B n).length : Int)))) hw hd) 8 0 rfl
  rw [show bytes8 n 0 = [] from rfl, List.append_nil, Int.natCast_zero, Int.sub_zero] at h1
  have h0 := rdone_l0 H B n hB _ h1 ((119 - B.length) % 64) 0 (by omega)
  refine Ev.congr (fun k => ?_) h0
  unfold q04_Done.f
  rw [show q04_Check.f H B n = some true from h, Option.bind_some, if_pos rfl]; rfl
def iniV : List Int := [1779033703, 3144134277, 1013904242, 2773480762, 1359893119, 2600822924, 528734635, 1541459225]
set_option maxRecDepth 100000 in
theorem new_ev : Ev (fun k => sha_New.f k) (iniV, ([] : List Int), (0 : Int)) := Ev.of sha_New.mono (k := 100) (by decide +kernel)
theorem Ev.succ {α : Type} {g : Nat → Option α} {r : α} (h : Ev (fun k => g (k + 1)) r) : Ev g r := Ev.step (fun _ => rfl) h
theorem check_ini : sha_Check.f iniV [] 0 = some true := by decide
theorem iniV_Ws : Ws iniV := by unfold Ws W32; decide
theorem wrap_u64 {x : Int} (h0 : 0 ≤ x) (h1 : x < 18446744073709551616) : IntKind.u64.wrap x = x := by rw [IntKind.wrap_u64]; omega
theorem check_write {H B l : List Int} {n : Int} (h : sha_Check.f H B n = some true) (h0 : 0 ≤ n) (hl : B.length + l.length < 140737488355328) :
    sha_Check.f (eatV kWords (B ++ l).length H (B ++ l)).1 (eatV kWords (B ++ l).length H (B ++ l)).2 (IntKind.u64.wrap (n + IntKind.u64.wrap (l.length : Int))) = some true := by
  obtain ⟨h8, hB, hn⟩ := check_nat h
  obtain ⟨e1, e2⟩ := eatV_length kWords (B ++ l).length H (B ++ l) h8 (Nat.le_refl _)
  rw [wrap_u64 (by omega) (by omega), Int.tmod_eq_emod_of_nonneg h0] at hn
  have e3 : IntKind.u64.wrap (n + IntKind.u64.wrap (l.length : Int)) = (n + l.length) % 18446744073709551616 := by rw [wrap_u64 (x := (l.length : Int)) (by omega) (by omega), IntKind.wrap_u64]
  unfold sha_Check.f
  rw [if_pos (by omega), if_pos (by rw [e2]; omega), e3, e2, wrap_u64 (by omega) (by omega), Int.tmod_eq_emod_of_nonneg (by omega), List.length_append]
  congr 1
  rw [beq_iff_eq]
  omega
end Go.Proofs.YtbnkcbfhappgnaaDoor.Pure
namespace Go.Proofs.YtbnkcbfhappgnaaDoor.Pure
open Go.RowKit Go.Proofs.YtbnkcbfhappgnaaDoor.Fn Go.Proofs.YtbnkcbfhappgnaaDoorW.PrintWords Go.Proofs.YtbnkcbfhappgnaaDoorW.PrintLast Go.Proofs.YtbnkcbfhappgnaaDoor.U
set_option linter.unusedVariables false
set_option linter.unusedSimpArgs false
def hexS : ByteArray := ⟨#[48, 49, 50, 51, 52, 53, 54, 55, 56, 57, 97, 98, 99, 100, 101, 102]⟩
def hex2 (x : Int) : List Int := [bt hexS (x / 16), bt hexS (Go.bits .and .u8 x 15)]
theorem low_nib (x : Int) (h0 : 0 ≤ x) (h1 : x < 256) : 0 ≤ Go.bits .and .u8 x 15 ∧ Go.bits .and .u8 x 15 < 16 := by
  obtain ⟨n, rfl⟩ := Int.eq_ofNat_of_zero_le h0
  have hn : n < 256 := by omega
  have : ∀ n : Fin 256, 0 ≤ Go.bits .and .u8 (n.val : Int) 15 ∧ Go.bits .and .u8 (n.val : Int) 15 < 16 := by decide +kernel
  exact this ⟨n, hn⟩
theorem text_loop (l : List Int) (hl : l.length < 1099511627776) (hr : ∀ x ∈ l, 0 ≤ x ∧ x < 256) (d : Nat) : ∀ (i : Nat) (out : List Int), i + d = l.length → out.length = 2 * i →
    Ev (fun k => key_text.l0 k out l (l.length : Int) (i : Int)) (strOfNums (out ++ (l.drop i).flatMap hex2)) := by
  induction d with
  | zero =>
    intro i out hi ho
    obtain rfl : i = l.length := by omega
    refine Ev.step (f := fun _ => some (strOfNums (out ++ (l.drop l.length).flatMap hex2))) (fun k => ?_) (Ev.now _)
    simp only [key_text.l0]
    rw [if_neg (by omega), List.drop_length]
    simp
  | succ d ih =>
    intro i out hi ho
    have hlt : i < l.length := by omega
    have hx := hr (l[i]) (List.getElem_mem hlt)
    have er : rd l (i : Int) = l[i] := by unfold rd; rw [Int.toNat_natCast, List.getD_eq_getElem?_getD, List.getElem?_eq_getElem hlt]; rfl
    have hb := low_nib _ hx.1 hx.2
    have ei : wrap64 ((i : Int) + 1) = ((i + 1 : Nat) : Int) := by rw [w64 (by omega) (by omega)]; omega
    have h16 : 0 ≤ l[i] / 16 ∧ l[i] / 16 < 16 := by omega
    have hstep := ih (i + 1) (out ++ hex2 l[i]) (by omega) (by rw [List.length_append, ho]; simp [hex2]; omega)
    rw [List.append_assoc, show hex2 l[i] ++ (l.drop (i + 1)).flatMap hex2 = (l.drop i).flatMap hex2 from by rw [List.drop_eq_getElem_cons hlt, List.flatMap_cons]] at hstep
    refine Ev.step (fun k => ?_) hstep
    simp only [key_text.l0]
    rw [if_pos (by omega), if_pos (by omega), if_pos (by omega), er, if_pos h16.1, if_pos h16.2, if_pos hb.1, if_pos hb.2, Option.bind_some, if_pos (by rw [ho]; simp; omega), ei]
    rfl
def hexOf (l : List Int) : ByteArray := strOfNums (l.flatMap hex2)
theorem text_ev (l : List Int) (hl : l.length < 1099511627776) (hr : ∀ x ∈ l, 0 ≤ x ∧ x < 256) : Ev (fun k => key_text.f k l) (hexOf l) := by
  have h := text_loop l hl hr l.length 0 [] (by omega) rfl
  refine Ev.congr (fun k => ?_) h
  unfold key_text.f
  rw [w64 (x := 2 * (l.length : Int)) (by omega) (by omega), if_pos (by omega), if_pos (by omega)]
  rfl
theorem write_ini (l : List Int) (hl : l.length < 140737488355328) : sha_Write.f iniV [] 0 l = some ((eatV kWords l.length iniV l).1, (eatV kWords l.length iniV l).2, (l.length : Int)) := by
  have h := write_some (l := l) check_ini (by simpa using hl)
  rw [List.nil_append, wrap_u64 (x := (l.length : Int)) (by omega) (by omega), wrap_u64 (by omega) (by omega), Int.zero_add] at h
  exact h
theorem write_one (x : Int) : sha_Write.f iniV [] 0 [x] = some (iniV, [x], 1) := by
  rw [write_ini [x] (by simp), eatV_stop _ _ _ _ (by simp)]; rfl
theorem check_one (x : Int) : sha_Check.f iniV [x] 1 = some true := by rfl
theorem write_two (x : Int) (l : List Int) (hl : l.length < 140737488355000) : sha_Write.f iniV [x] 1 l = some ((eatV kWords (x :: l).length iniV (x :: l)).1, (eatV kWords (x :: l).length iniV (x :: l)).2, ((x :: l).length : Int)) := by
  have h := write_some (l := l) (check_one x) (by simp; omega)
  rw [List.singleton_append, wrap_u64 (x := (l.length : Int)) (by omega) (by omega), wrap_u64 (by omega) (by omega)] at h
  rw [h]
  simp; omega
theorem check_two (x : Int) (l : List Int) (hl : l.length < 140737488355000) : sha_Check.f (eatV kWords (x :: l).length iniV (x :: l)).1 (eatV kWords (x :: l).length iniV (x :: l)).2 ((x :: l).length : Int) = some true := by
  have h := check_write (l := l) (check_one x) (by decide) (by simp; omega)
  rw [List.singleton_append, wrap_u64 (x := (l.length : Int)) (by omega) (by omega), wrap_u64 (by omega) (by omega)] at h
  rw [show ((x :: l).length : Int) = 1 + (l.length : Int) from by simp; omega]
  exact h
def sumOf (l : List Int) : List Int := doneV (eatV kWords l.length iniV l).1 (eatV kWords l.length iniV l).2 (l.length : Int)
theorem sumOf_range (l : List Int) : ∀ x ∈ sumOf l, 0 ≤ x ∧ x < 256 := outV_range _
theorem eat_length (l : List Int) : (eatV kWords l.length iniV l).1.length = 8 := (eatV_length kWords _ iniV _ (by decide) (Nat.le_refl _)).1
theorem sumOf_length (l : List Int) : (sumOf l).length = 32 := by
  unfold sumOf doneV
  rw [outV_length, (eatV_length kWords _ _ _ (eat_length l) (Nat.le_refl _)).1]
def keyOf (a : Int) (l : List Int) : ByteArray := hexOf (sumOf (a % 256 :: l))
theorem keyOf_ev (a : Int) (l : List Int) (hl : l.length < 140737488355000) : Ev (fun k => key_Of.f k a l) (keyOf a l) := by
  refine Ev.bind new_ev ?_
  refine Ev.congr (f := fun k => (sha_Done.f k (eatV kWords (a % 256 :: l).length iniV (a % 256 :: l)).1 (eatV kWords (a % 256 :: l).length iniV (a % 256 :: l)).2 ((a % 256 :: l).length : Int)).bind fun t170 => ((key_text.f k t170).bind fun t173 => (some t173))) (fun k => ?_) (Ev.bind (shaDone_ev _ _ _ (check_two _ l hl)) (Ev.bind (f := fun _ t => some t) (text_ev (sumOf (a % 256 :: l)) (by rw [sumOf_length]; decide) (sumOf_range _)) (Ev.now _)))
  show (sha_Write.f iniV [] 0 [a % 256]).bind _ = _
  rw [write_one, Option.bind_some]
  dsimp only
  rw [write_two _ l hl, Option.bind_some]
def toU (n : Int) : UInt8 := UInt8.ofNat n.toNat
theorem bytes_Ws {l : List Int} (h : ∀ x ∈ l, 0 ≤ x ∧ x < 256) : Ws l := fun x hx => ⟨(h x hx).1, by have := (h x hx).2; omega⟩
theorem refSum_ev (l : List Int) (hW : Ws l) (hl : l.length < 140737488355328) (hc : sha_Check.f (eatV kWords l.length iniV l).1 (eatV kWords l.length iniV l).2 (l.length : Int) = some true) : Ev (fun k => q04_Sum.f k l) (sumOf l) := by
  have hw := refWrite_ev iniV [] l 0 iniV_Ws (fun x hx => by simp at hx) hW (write_ini l hl)
  obtain ⟨w1, w2⟩ := eatV_Ws kWords l.length iniV l iniV_Ws hW
  exact Ev.bind (f := fun k (bt : List Int × List Int × Int) => (q04_Done.f k bt.1 bt.2.1 bt.2.2).bind fun t => some t) hw (Ev.bind (f := fun _ t => some t) (refDone_ev _ _ _ w1 w2 hc) (Ev.now _))
theorem refText_all : ∀ n : Fin 256, 0 ≤ (Int.tdiv (n.val : Int) 16) % 256 ∧ ((Int.tdiv (n.val : Int) 16) % 256) + 1 ≤ 16 ∧ 0 ≤ wrap64 (Int.tmod (n.val : Int) 16) ∧ wrap64 (Int.tmod (n.val : Int) 16) ≤ wrap64 (wrap64 (Int.tmod (n.val : Int) 16) + 1) ∧ wrap64 (wrap64 (Int.tmod (n.val : Int) 16) + 1) ≤ 16 ∧
    hexS.extract ((Int.tdiv (n.val : Int) 16) % 256).toNat (((Int.tdiv (n.val : Int) 16) % 256) + 1).toNat = ⟨#[toU (bt hexS ((n.val : Int) / 16))]⟩ ∧
    hexS.extract (wrap64 (Int.tmod (n.val : Int) 16)).toNat (wrap64 (wrap64 (Int.tmod (n.val : Int) 16) + 1)).toNat = ⟨#[toU (bt hexS (Go.bits .and .u8 (n.val : Int) 15))]⟩ := by decide +kernel
theorem refText_nib (x : Int) (h0 : 0 ≤ x) (h1 : x < 256) : 0 ≤ (Int.tdiv x 16) % 256 ∧ ((Int.tdiv x 16) % 256) + 1 ≤ 16 ∧ 0 ≤ wrap64 (Int.tmod x 16) ∧ wrap64 (Int.tmod x 16) ≤ wrap64 (wrap64 (Int.tmod x 16) + 1) ∧ wrap64 (wrap64 (Int.tmod x 16) + 1) ≤ 16 ∧
    hexS.extract ((Int.tdiv x 16) % 256).toNat (((Int.tdiv x 16) % 256) + 1).toNat = ⟨#[toU (bt hexS (x / 16))]⟩ ∧
    hexS.extract (wrap64 (Int.tmod x 16)).toNat (wrap64 (wrap64 (Int.tmod x 16) + 1)).toNat = ⟨#[toU (bt hexS (Go.bits .and .u8 x 15))]⟩ := by
  obtain ⟨n, rfl⟩ := Int.eq_ofNat_of_zero_le h0
  exact refText_all ⟨n, by omega⟩
theorem str_hex (a : List Int) (x : Int) : strOfNums a ++ ⟨#[toU (bt hexS (x / 16))]⟩ ++ ⟨#[toU (bt hexS (Go.bits .and .u8 x 15))]⟩ = strOfNums (a ++ hex2 x) := by
  apply ByteArray.ext
  simp [strOfNums, hex2, toU, ByteArray.data_append]
theorem str_size (a : List Int) : (strOfNums a).size = a.length := by
  show (strOfNums a).data.size = _
  simp [strOfNums]
theorem refText_step (X Y Z : Int) (s h1 h2 : ByteArray) (F : ByteArray → Option ByteArray) (n1 : 0 ≤ X) (n2 : X + 1 ≤ 16) (n3 : 0 ≤ Y) (n4 : Y ≤ Z) (n5 : Z ≤ 16) (n6 : hexS.extract X.toNat (X + 1).toNat = h1) (n7 : hexS.extract Y.toNat Z.toNat = h2)
    (z1 : h1.size = 1) (z2 : h2.size = 1) (hs : s.size + 2 ≤ 9223372036854775807) :
    (if 0 ≤ X then (if X ≤ X + 1 then (if X + 1 ≤ 16 then (if s.size + (hexS.extract X.toNat (X + 1).toNat).size ≤ 9223372036854775807 then (if 0 ≤ Y then (if Y ≤ Z then (if Z ≤ 16 then (if (s ++ hexS.extract X.toNat (X + 1).toNat).size + (hexS.extract Y.toNat Z.toNat).size ≤ 9223372036854775807 then F ((s ++ hexS.extract X.toNat (X + 1).toNat) ++ hexS.extract Y.toNat Z.toNat) else none) else none) else none) else none) else none) else none) else none) else none) = F (s ++ h1 ++ h2) := by
  rw [n6, n7, if_pos n1, if_pos (by omega), if_pos n2, if_pos (by omega), if_pos n3, if_pos n4, if_pos n5, if_pos (by rw [ByteArray.size_append]; omega)]
theorem refText_loop (l : List Int) (hl : l.length < 1099511627776) (hr : ∀ x ∈ l, 0 ≤ x ∧ x < 256) (d : Nat) : ∀ (i : Nat) (out : List Int), i + d = l.length → out.length = 2 * i →
    Ev (fun k => q07_text.l0 k l (strOfNums out) (i : Int)) (strOfNums (out ++ (l.drop i).flatMap hex2)) := by
  induction d with
  | zero =>
    intro i out hi ho
    obtain rfl : i = l.length := by omega
    refine Ev.step (f := fun _ => some (strOfNums (out ++ (l.drop l.length).flatMap hex2))) (fun k => ?_) (Ev.now _)
    simp only [q07_text.l0]
    rw [if_neg (by omega), List.drop_length]
    simp
  | succ d ih =>
    intro i out hi ho
    have hlt : i < l.length := by omega
    have hx := hr (l[i]) (List.getElem_mem hlt)
    have er : rd l (i : Int) = l[i] := by unfold rd; rw [Int.toNat_natCast, List.getD_eq_getElem?_getD, List.getElem?_eq_getElem hlt]; rfl
    have ei : wrap64 ((i : Int) + 1) = ((i + 1 : Nat) : Int) := by rw [w64 (by omega) (by omega)]; omega
    have c1 : (i : Int) < (l.length : Int) := by omega
    have c2 : (0 : Int) ≤ (i : Int) := by omega
    have hz : (strOfNums out).size + 2 ≤ 9223372036854775807 := by rw [str_size]; omega
    have hstep := ih (i + 1) (out ++ hex2 l[i]) (by omega) (by rw [List.length_append, ho]; simp [hex2]; omega)
    rw [List.append_assoc, show hex2 l[i] ++ (l.drop (i + 1)).flatMap hex2 = (l.drop i).flatMap hex2 from by rw [List.drop_eq_getElem_cons hlt, List.flatMap_cons]] at hstep
    refine Ev.step (fun k => ?_) hstep
    rw [← str_hex, ← ei]
    generalize l[i] = x at hx er
    obtain ⟨n1, n2, n3, n4, n5, n6, n7⟩ := refText_nib _ hx.1 hx.2
    have st := refText_step _ _ _ (strOfNums out) _ _ (fun z => q07_text.l0 k l z (wrap64 ((i : Int) + 1))) n1 n2 n3 n4 n5 n6 n7 rfl rfl hz
    simp only [q07_text.l0]
    rw [if_pos c1, if_pos c2, er]
    exact st
theorem refText_ev (l : List Int) (hl : l.length < 1099511627776) (hr : ∀ x ∈ l, 0 ≤ x ∧ x < 256) : Ev (fun k => q07_text.f k l) (hexOf l) := by
  have h := refText_loop l hl hr l.length 0 [] (by omega) rfl
  refine Ev.congr (fun k => ?_) h
  unfold q07_text.f
  rfl
end Go.Proofs.YtbnkcbfhappgnaaDoor.Pure
namespace Go.Proofs.YtbnkcbfhappgnaaDoor.LebB
open Go.RowKit Go.Proofs.YtbnkcbfhappgnaaDoor.Fn Go.Proofs.YtbnkcbfhappgnaaDoorW.PrintWords Go.Proofs.YtbnkcbfhappgnaaDoorW.PrintLast Go.Proofs.YtbnkcbfhappgnaaDoor.U Go.Proofs.YtbnkcbfhappgnaaDoor.LebA
set_option linter.unusedVariables false
set_option linter.unusedSimpArgs false
theorem wu {x : Int} (h0 : 0 ≤ x) (h1 : x < 18446744073709551616) : IntKind.u64.wrap x = x := by rw [IntKind.wrap_u64]; omega
theorem size_eq {x : Nat} (hx : x < 18446744073709551616) : leb_Size.f (x : Int) = some ((sz x : Nat) : Int) := by
  unfold leb_Size.f bits_Len64.f
  rw [if_pos (by omega), if_pos (by omega)]
  simp only [Option.bind_some, Int.toNat_natCast]
  have hb := Lib.bitLen_le x 64 (Nat.le_refl _) hx
  unfold sz
  generalize Lib.bitLen x = b at hb ⊢
  have e1 : wrap64 ((b : Int) + 7) = (b : Int) + 7 := w64 (by omega) (by omega)
  have e2 : wrap64 ((b : Int) + 7 - 1) = (b : Int) + 6 := by rw [w64 (by omega) (by omega)]; omega
  have e3 : Int.tdiv ((b : Int) + 6) 7 = (((b + 6) / 7 : Nat) : Int) := by
    rw [Int.tdiv_eq_ediv_of_nonneg (by omega)]
    omega
  rw [e1, e2, e3]
  have e4 : wrap64 (((b + 6) / 7 : Nat) : Int) = (((b + 6) / 7 : Nat) : Int) := w64 (by omega) (by omega)
  rw [e4]
  unfold mx
  congr 1
  split <;> omega
theorem or128 (y : Nat) (h : y < 256) : y ||| 128 = y % 128 + 128 := by
  have : ∀ z : Fin 256, z.val ||| 128 = z.val % 128 + 128 := by decide +kernel
  exact this ⟨y, h⟩
theorem andNot128 (y : Nat) (h : y < 256) : Go.bits .andNot .u8 (y : Int) 128 = ((y % 128 : Nat) : Int) := by
  have e := u8_andNot_nat y 128 h (by decide)
  have e2 : y &&& (255 - 128) = y % 128 := nat_mask7 y
  rw [e2] at e
  exact e
theorem put_l0 (x m : Nat) (h1 : 1 ≤ m) (hm : m ≤ 10) (d : Nat) : ∀ i : Nat, i + d = m →
    Ev (fun k => leb_Put.l0 k (x : Int) (ofN (G i x ++ List.replicate d 0)) (m : Int) (i : Int)) (ofN (G (m - 1) x ++ [x / 128 ^ (m - 1) % 128])) := by
  induction d with
  | zero =>
    intro i hi
    have him : i = m := by omega
    subst him
    refine Ev.step (fun k => ?_) (Ev.now _)
    simp only [leb_Put.l0, List.replicate_zero, List.append_nil]
    have hl : (ofN (G i x)).length = i := by rw [ofN_length, G_length]
    have e1 : wrap64 ((i : Int) - 1) = ((i - 1 : Nat) : Int) := by rw [w64 (by omega) (by omega)]; omega
    rw [if_neg (by omega), hl, e1, if_pos (by omega), if_pos (by omega), Int.toNat_natCast]
    obtain ⟨j, rfl⟩ : ∃ j, i = j + 1 := ⟨i - 1, by omega⟩
    rw [Nat.add_sub_cancel, G_snoc]
    have hr : rd (ofN (G j x ++ [x / 128 ^ j % 128 + 128])) (j : Int) = ((x / 128 ^ j % 128 + 128 : Nat) : Int) := rd_at (G j x) [] _ _ (by rw [G_length])
    rw [hr, andNot128 _ (by omega), ofN_set]
    congr 2
    have hs : (G j x ++ [x / 128 ^ j % 128 + 128]).set j ((x / 128 ^ j % 128 + 128) % 128) = G j x ++ [(x / 128 ^ j % 128 + 128) % 128] := by
      rw [List.set_append_right _ _ (by rw [G_length]; omega), G_length, Nat.sub_self]
      rfl
    rw [hs]
    congr 2
    omega
  | succ d ih =>
    intro i hi
    refine Ev.step (fun k => ?_) (ih (i + 1) (by omega))
    simp only [leb_Put.l0]
    have hl : (ofN (G i x ++ List.replicate (d + 1) 0)).length = m := by rw [ofN_length, List.length_append, G_length, List.length_replicate]; omega
    have e7 : wrap64 (7 * (i : Int)) = ((7 * i : Nat) : Int) := by rw [w64 (by omega) (by omega)]; omega
    have ei : wrap64 ((i : Int) + 1) = ((i + 1 : Nat) : Int) := by rw [w64 (by omega) (by omega)]; omega
    rw [if_pos (by omega), e7, if_pos (by omega), if_pos (by omega), hl, if_pos (by omega), ei]
    have hs : shr .u64 (x : Int) ((7 * i : Nat) : Int) = ((x / 128 ^ i : Nat) : Int) := by
      rw [shr_nat .u64 x (7 * i) _ rfl (by show 7 * i ≤ 64; omega), pow7]
    rw [hs]
    have hb : Go.bits .or .u8 (((x / 128 ^ i : Nat) : Int) % 256) 128 = ((x / 128 ^ i % 128 + 128 : Nat) : Int) := by
      have e : ((x / 128 ^ i : Nat) : Int) % 256 = ((x / 128 ^ i % 256 : Nat) : Int) := by omega
      rw [e]
      have e2 := u8_or_nat (x / 128 ^ i % 256) 128 (by omega) (by decide)
      rw [or128 _ (by omega)] at e2
      have e3 : x / 128 ^ i % 256 % 128 = x / 128 ^ i % 128 := by omega
      rw [e3] at e2
      exact e2
    rw [hb, Int.toNat_natCast, ofN_set]
    have he : (G i x ++ List.replicate (d + 1) 0).set i (x / 128 ^ i % 128 + 128) = G (i + 1) x ++ List.replicate d 0 := by
      rw [List.set_append_right _ _ (by rw [G_length]; omega), G_length, Nat.sub_self, List.replicate_succ, List.set_cons_zero, G_snoc, List.append_assoc]
      rfl
    rw [he]
theorem last_digit {m x : Nat} (h : Fit m x) : G (m - 1) x ++ [x / 128 ^ (m - 1) % 128] = D m x := by
  obtain ⟨j, rfl⟩ : ∃ j, m = j + 1 := ⟨m - 1, by have := h.1; omega⟩
  rw [Nat.add_sub_cancel, D_snoc]
  congr 2
  apply Nat.mod_eq_of_lt
  rw [Nat.div_lt_iff_lt_mul (pow_pos' j)]
  have := h.2.1
  rw [Nat.pow_succ, Nat.mul_comm] at this
  exact this
theorem put_ev {x : Nat} (hx : x < 18446744073709551616) : Ev (fun k => leb_Put.f k (x : Int)) (ofN (D (sz x) x)) := by
  have hf := sz_fit hx
  have hs := sz_le hx
  have h1 := hf.1
  rw [← last_digit hf]
  refine Ev.congr (fun k => ?_) (put_l0 x (sz x) h1 hs (sz x) 0 (by omega))
  unfold leb_Put.f
  rw [size_eq hx]
  simp only [Option.bind_some]
  rw [if_pos (by omega), Int.toNat_natCast, if_pos (by omega)]
  have e : (List.replicate (sz x) (0 : Int)) = ofN (G 0 x ++ List.replicate (sz x) 0) := by simp [G, ofN]
  have el : ((List.replicate (sz x) (0 : Int)).length : Int) = ((sz x : Nat) : Int) := by rw [List.length_replicate]
  rw [el, e]
  rfl
def c3 (r : Nat × Nat × Nat) : Int × Int × Int := ((r.1 : Int), (r.2.1 : Int), (r.2.2 : Int))
theorem get_l0 (rest : List Nat) : ∀ (pre : List Nat) (a : Nat), pre.length + rest.length ≤ 10 → (∀ c ∈ rest, c < 256) → a < 128 ^ pre.length →
    Ev (fun k => leb_get.l0 k (a : Int) (ofN (pre ++ rest)) ((pre.length + rest.length : Nat) : Int) (pre.length : Int)) (c3 (R rest pre.length a)) := by
  induction rest with
  | nil =>
    intro pre a hl hc ha
    refine Ev.step (fun k => ?_) (Ev.now _)
    simp only [leb_get.l0]
    rw [if_neg (by simp)]
    rfl
  | cons c cs ih =>
    intro pre a hl hc ha
    simp only [List.length_cons] at hl
    have hc0 := hc c (by simp)
    have hlen : (ofN (pre ++ c :: cs)).length = pre.length + (cs.length + 1) := by rw [ofN_length]; simp
    have hr : rd (ofN (pre ++ c :: cs)) (pre.length : Int) = (c : Int) := rd_at pre cs c _ rfl
    generalize hi : pre.length = i at *
    have main : Ev (fun k => leb_get.j1 k (a : Int) (i : Int) (c : Int) (ofN (pre ++ c :: cs)) ((i + (c :: cs).length : Nat) : Int) (i : Int) (decide (i = 9 ∧ 1 < c))) (c3 (R (c :: cs) i a)) := by
      by_cases h9 : i = 9 ∧ 1 < c
      · refine Ev.step (fun k => ?_) (Ev.now _)
        simp only [leb_get.j1, R]
        rw [if_pos h9, if_pos (decide_eq_true h9)]
        rfl
      · have e7 : wrap64 (7 * (i : Int)) = ((7 * i : Nat) : Int) := by rw [w64 (by omega) (by omega)]; omega
        have ei : wrap64 ((i : Int) + 1) = ((i + 1 : Nat) : Int) := by rw [w64 (by omega) (by omega)]; omega
        have hv : c % 128 * 128 ^ i < 18446744073709551616 := by
          rcases Nat.lt_or_ge i 9 with h | h
          · have p1 : 128 ^ i ≤ 128 ^ 8 := Nat.pow_le_pow_right (by decide) (by omega)
            have p2 : c % 128 * 128 ^ i ≤ 127 * 128 ^ 8 := Nat.mul_le_mul (by omega) p1
            have e : 127 * 128 ^ 8 = 9151314442816847872 := by decide
            omega
          · have h9' : i = 9 := by omega
            subst h9'
            have p2 : c % 128 * 128 ^ 9 ≤ 1 * 128 ^ 9 := Nat.mul_le_mul (by omega) (Nat.le_refl _)
            have e : 1 * 128 ^ 9 = 9223372036854775808 := by decide
            omega
        have ha' : a < 18446744073709551616 := by
          have p1 : 128 ^ i ≤ 128 ^ 9 := Nat.pow_le_pow_right (by decide) (by omega)
          have e : 128 ^ 9 = 9223372036854775808 := by decide
          omega
        have hval : Go.bits .or .u64 (a : Int) (shl .u64 (IntKind.u64.wrap (Go.bits .andNot .u8 (c : Int) 128)) ((7 * i : Nat) : Int)) = ((a + c % 128 * 128 ^ i : Nat) : Int) := by
          rw [andNot128 c hc0, wu (by omega) (by omega)]
          have es : shl .u64 ((c % 128 : Nat) : Int) ((7 * i : Nat) : Int) = ((c % 128 * 128 ^ i : Nat) : Int) := by
            unfold shl
            have em : min (((7 * i : Nat) : Int).toNat) (IntKind.u64.bits) = 7 * i := by
              rw [Int.toNat_natCast]; show min (7 * i) 64 = 7 * i; omega
            rw [em]
            have ep : ((c % 128 : Nat) : Int) * 2 ^ (7 * i) = ((c % 128 * 128 ^ i : Nat) : Int) := by rw [← pow7]; simp
            rw [ep, wu (by omega) (by omega)]
          rw [es, u64_or_nat a _ ha' hv]
          congr 1
          rw [Nat.or_comm, ← pow7, nat_join (7 * i) _ a (by simp) (by rw [pow7]; exact ha), Nat.add_comm]
        by_cases h1 : c < 128
        · refine Ev.step (fun k => ?_) (Ev.now _)
          simp only [leb_get.j1, R]
          rw [if_neg h9, if_neg (by simpa using h9), e7, if_pos (by omega), hval, ei, if_pos h1, if_pos (by omega)]
          by_cases h2 : 0 < i ∧ c = 0
          · rw [if_pos h2, if_pos (by omega), if_pos (by omega)]; rfl
          · rw [if_neg h2]
            by_cases h3 : 0 < i
            · rw [if_pos (by omega), if_neg (by omega)]; rfl
            · rw [if_neg (by omega)]; rfl
        · have hn : a + c % 128 * 128 ^ i < 128 ^ (i + 1) := by
            rw [Nat.pow_succ]
            have p : (c % 128 + 1) * 128 ^ i ≤ 128 * 128 ^ i := Nat.mul_le_mul_right _ (by omega)
            rw [Nat.add_mul, Nat.one_mul] at p
            rw [Nat.mul_comm (128 ^ i)]
            omega
          have key := ih (pre ++ [c]) (a + c % 128 * 128 ^ i) (by simp [hi]; omega) (fun d hd => hc d (by simp [hd])) (by rw [List.length_append, hi]; exact hn)
          rw [List.append_assoc, List.length_append, hi] at key
          have eR : R (c :: cs) i a = R cs (i + 1) (a + c % 128 * 128 ^ i) := by
            simp only [R]
            rw [if_neg h9, if_neg h1]
          rw [eR]
          refine Ev.step (fun k => ?_) key
          simp only [leb_get.j1]
          rw [if_neg (by simpa using h9), e7, if_pos (by omega), hval, ei, if_neg (by omega)]
          have en : ((i + (c :: cs).length : Nat) : Int) = ((i + [c].length + cs.length : Nat) : Int) := by simp; omega
          rw [en]
          rfl
    refine Ev.step (fun k => ?_) main
    simp only [leb_get.l0]
    have en : ((i + (c :: cs).length : Nat) : Int) = (i : Int) + (cs.length + 1 : Int) := by simp
    rw [hr, if_pos (by rw [en]; omega), if_pos (by omega), hlen, if_pos (by omega)]
    by_cases h : i = 9
    · rw [if_pos (by omega)]
      congr 1
      simp [h]
      omega
    · rw [if_neg (by omega)]
      congr 1
      simp [h]
theorem get_ev {l : List Nat} (hc : ∀ c ∈ l, c < 256) : Ev (fun k => leb_get.f k (ofN l)) (c3 (R (l.take 10) 0 0)) := by
  have hm : mn ((ofN l).length : Int) 10 = ((min l.length 10 : Nat) : Int) := by
    rw [ofN_length]
    unfold mn
    split <;> omega
  have ht : l.take (min l.length 10) = l.take 10 := by
    rcases Nat.le_total l.length 10 with h | h
    · rw [Nat.min_eq_left h, List.take_length, List.take_of_length_le h]
    · rw [Nat.min_eq_right h]
  have hlen : (l.take 10).length = min l.length 10 := by rw [List.length_take, Nat.min_comm]
  have key := get_l0 (l.take 10) [] 0 (by simp; omega) (fun c h => hc c (List.mem_of_mem_take h)) (by simp)
  refine Ev.congr (fun k => ?_) key
  unfold leb_get.f
  rw [hm, if_pos (by omega), ofN_length, if_pos (by omega), Int.toNat_natCast, ofN_take, ht, ofN_length]
  simp
theorem Get_ev {l : List Nat} (hc : ∀ c ∈ l, c < 256) : Ev (fun k => leb_Get.f k (ofN l)) (c3 (R (l.take 10) 0 0)) := by
  refine Ev.congr (fun k => ?_) (get_ev hc)
  unfold leb_Get.f
  cases leb_get.f k (ofN l) <;> rfl
end Go.Proofs.YtbnkcbfhappgnaaDoor.LebB
namespace Go.Proofs.YtbnkcbfhappgnaaDoor.CrcB
open Go.RowKit Go.Proofs.YtbnkcbfhappgnaaDoor.Fn Go.Proofs.YtbnkcbfhappgnaaDoorW.PrintWords Go.Proofs.YtbnkcbfhappgnaaDoorW.PrintLast Go.Proofs.YtbnkcbfhappgnaaDoor.U Go.Proofs.YtbnkcbfhappgnaaDoor.CrcA
set_option linter.unusedVariables false
set_option linter.unusedSimpArgs false
theorem step (c : Nat) (h : c < 4294967296) : Go.bits .xor .u32 ((c : Int) / 2) (Go.bits .and .u32 3988292384 ((-(Go.bits .and .u32 (c : Int) 1)) % 4294967296)) = ((T c : Nat) : Int) := by
  have e1 : Go.bits .and .u32 (c : Int) 1 = ((c % 2 : Nat) : Int) := by
    have := u32_and_nat c 1 h (by decide)
    rw [nat_mask1] at this
    exact this
  rw [e1]
  unfold T
  rcases Nat.mod_two_eq_zero_or_one c with h0 | h0
  · rw [h0, if_neg (by decide)]
    have e2 : Go.bits .and .u32 3988292384 ((-((0 : Nat) : Int)) % 4294967296) = ((0 : Nat) : Int) := by decide
    rw [e2]
    have := u32_xor_nat (c / 2) 0 (by omega) (by decide)
    rw [← this]
    rfl
  · rw [h0, if_pos rfl]
    have e2 : Go.bits .and .u32 3988292384 ((-((1 : Nat) : Int)) % 4294967296) = ((3988292384 : Nat) : Int) := by decide
    rw [e2]
    have := u32_xor_nat (c / 2) 3988292384 (by omega) (by decide)
    rw [← this]
    rfl
theorem l1_ev (d : Nat) : ∀ (c : Nat) (xs : List Int) (n i : Int) (r : Int), d ≤ 8 → c < 4294967296 → Ev (fun k => crc_More.l0 k ((Tn d c : Nat) : Int) xs n (wrap64 (i + 1))) r →
    Ev (fun k => crc_More.l1 k (c : Int) xs n i (8 - (d : Int))) r := by
  induction d with
  | zero =>
    intro c xs n i r _ _ h
    refine Ev.step (fun k => ?_) h
    simp only [crc_More.l1]
    rw [if_neg (by omega)]
    rfl
  | succ d ih =>
    intro c xs n i r hd hc h
    refine Ev.step (fun k => ?_) (ih (T c) xs n i r (by omega) (T_lt hc) h)
    simp only [crc_More.l1]
    rw [if_pos (by omega), step c hc, w64 (by omega) (by omega)]
    congr 1
    omega
theorem l0_ev (ys : List Nat) : ∀ (xs : List Nat) (c : Nat), c < 4294967296 → (∀ y ∈ ys, y < 256) → (xs ++ ys).length ≤ 140737488355328 →
    Ev (fun k => crc_More.l0 k (c : Int) (ofN (xs ++ ys)) ((xs ++ ys).length : Int) (xs.length : Int)) ((4294967295 ^^^ F c ys : Nat) : Int) := by
  induction ys with
  | nil =>
    intro xs c hc _ _
    refine Ev.step (fun k => ?_) (Ev.now _)
    simp only [crc_More.l0]
    rw [if_neg (by simp)]
    exact congrArg some (u32_xor_nat 4294967295 c (by decide) hc)
  | cons y ys ih =>
    intro xs c hc hy hl
    have hyb : y < 256 := hy y (by simp)
    have hcx : c ^^^ y < 4294967296 := xor_byte_lt hc hyb
    have h1 := ih (xs ++ [y]) (Tn 8 (c ^^^ y)) (Tn_lt 8 hcx) (fun z hz => hy z (by simp [hz])) (by simpa using hl)
    rw [List.append_assoc] at h1
    have hlen : (xs ++ [y]).length = xs.length + 1 := by simp
    rw [hlen] at h1
    have hlt : (xs.length : Int) < ((xs ++ y :: ys).length : Int) := by simp; omega
    have hb : (xs ++ y :: ys).length ≤ 140737488355328 := hl
    refine Ev.step (fun k => ?_) (l1_ev 8 (c ^^^ y) (ofN (xs ++ y :: ys)) ((xs ++ y :: ys).length : Int) (xs.length : Int) _ (by decide) hcx (Ev.congr (fun k => ?_) h1))
    · simp only [crc_More.l0]
      rw [if_pos hlt, if_pos (by omega), if_pos (by rw [ofN_length]; exact hlt), rd_at _ _ _ _ rfl]
      have e : ((y : Nat) : Int) % 4294967296 = (y : Int) := by omega
      rw [e, u32_xor_nat c y hc (by omega)]
      rfl
    · rw [w64 (by omega) (by omega)]
      rfl
theorem more_ev (sum : Nat) (xs : List Nat) (hs : sum < 4294967296) (hx : ∀ x ∈ xs, x < 256) (hl : xs.length ≤ 140737488355328) :
    Ev (fun k => crc_More.f k (sum : Int) (ofN xs)) ((4294967295 ^^^ F (4294967295 ^^^ sum) xs : Nat) : Int) := by
  have h := l0_ev xs [] (4294967295 ^^^ sum) (Nat.xor_lt_two_pow (n := 32) (by decide) hs) hx (by simpa using hl)
  refine Ev.congr (fun k => ?_) h
  unfold crc_More.f
  rw [← u32_xor_nat 4294967295 sum (by decide) hs, ofN_length]
  rfl
theorem sum_ev (xs : List Nat) (hx : ∀ x ∈ xs, x < 256) (hl : xs.length ≤ 140737488355328) :
    Ev (fun k => crc_Sum.f k (ofN xs)) ((4294967295 ^^^ F 4294967295 xs : Nat) : Int) := by
  have h := more_ev 0 xs (by decide) hx hl
  refine Ev.congr (fun k => ?_) (Ev.bind h (Ev.now _))
  rfl
theorem bytes_l0 (s : Nat) (j : Nat) : ∀ (xs : List Nat), j ≤ 4 → s < 4294967296 → xs.length ≤ 140737488355320 →
    Ev (fun k => crc_Bytes.l0 k (ofN (xs ++ (bytes4 s).take (4 - j))) (s : Int) (4 - (j : Int))) (ofN (xs ++ bytes4 s)) := by
  induction j with
  | zero =>
    intro xs _ _ _
    refine Ev.step (fun k => ?_) (Ev.now _)
    simp only [crc_Bytes.l0]
    rw [if_neg (by omega)]
    rfl
  | succ j ih =>
    intro xs hj hs hl
    refine Ev.step (fun k => ?_) (ih xs (by omega) hs hl)
    simp only [crc_Bytes.l0]
    rw [if_pos (by omega)]
    have e0 : wrap64 (8 * (4 - ((j + 1 : Nat) : Int))) = ((8 * (3 - j) : Nat) : Int) := by rw [w64 (by omega) (by omega)]; omega
    rw [e0, if_pos (by omega)]
    rw [if_pos (by simp [bytes4]; omega)]
    rw [shr_nat .u32 s (8 * (3 - j)) _ rfl (by simp [IntKind.bits]; omega)]
    have e1 : wrap64 (4 - ((j + 1 : Nat) : Int) + 1) = 4 - (j : Int) := by rw [w64 (by omega) (by omega)]; omega
    rw [e1]
    congr 1
    have e2 : (((s / 2 ^ (8 * (3 - j)) : Nat) : Int)) % 256 = ((s / 2 ^ (8 * (3 - j)) % 256 : Nat) : Int) := by omega
    rw [e2, ← ofN_nil, ← ofN_cons, ← ofN_append, List.append_assoc]
    congr 2
    have : j = 0 ∨ j = 1 ∨ j = 2 ∨ j = 3 := by omega
    rcases this with rfl | rfl | rfl | rfl <;> simp [bytes4]
theorem bytes_ev (xs : List Nat) (hx : ∀ x ∈ xs, x < 256) (hl : xs.length ≤ 140737488355320) : Ev (fun k => crc_Bytes.f k (ofN xs)) (ofN (CrcA.bytes xs)) := by
  have h := bytes_l0 (4294967295 ^^^ F 4294967295 xs) 4 xs (by decide) (Nat.xor_lt_two_pow (n := 32) (by decide) (F_lt xs (by decide) hx)) hl
  refine Ev.congr (fun k => ?_) (Ev.bind (sum_ev xs hx (by omega)) (f := fun k t => crc_Bytes.l0 k (ofN xs) t 0) ?_)
  · unfold crc_Bytes.f
    rw [ofN_length, w64 (by omega) (by omega), if_pos (by omega), if_pos (by omega)]
    simp only [Option.bind_some, List.length_nil]
    rw [if_pos (by omega)]
    rfl
  · refine Ev.congr (fun k => ?_) h
    simp
theorem right_ev (xs : List Nat) (hx : ∀ x ∈ xs, x < 256) (hl : xs.length ≤ 140737488355320) : Ev (fun k => crc_Right.f k (ofN xs)) (right xs) := by
  have hw : wrap64 (((ofN xs).length : Int) - 4) = (xs.length : Int) - 4 := by rw [ofN_length, w64 (by omega) (by omega)]
  by_cases h4 : 4 ≤ xs.length
  · have hb := bytes_ev (xs.take (xs.length - 4)) (fun x h => hx x (List.mem_of_mem_take h)) (by simp; omega)
    have e : ((xs.length : Int) - 4).toNat = xs.length - 4 := by omega
    have hr : ((strOfNums (ofN (CrcA.bytes (xs.take (xs.length - 4))))).toList == (strOfNums (ofN xs)).toList) = right xs := by
      rw [str_eq (bytes_lt (fun x h => hx x (List.mem_of_mem_take h))) hx]
      unfold right CrcA.bytes
      simp only [h4, decide_true, Bool.true_and]
      rw [Bool.eq_iff_iff, beq_iff_eq, beq_iff_eq]
      constructor
      · intro h
        have := congrArg (List.drop (xs.length - 4)) h
        rw [List.drop_append_of_le_length (by simp), List.drop_eq_nil_of_le (by simp)] at this
        exact this.symm
      · intro h
        rw [← h, List.take_append_drop]
    refine Ev.congr (fun k => ?_) (Ev.bind hb (f := fun _ t => some ((strOfNums t).toList == (strOfNums (ofN xs)).toList)) (by rw [hr]; exact Ev.now _))
    unfold crc_Right.f
    rw [hw, if_pos (by omega), if_pos (by omega), if_pos (by rw [ofN_length]; omega), e, ofN_take]
  · have : right xs = false := by simp [right, h4]
    rw [this]
    refine Ev.congr (fun k => ?_) (Ev.now false)
    unfold crc_Right.f
    rw [hw, if_neg (by omega)]
end Go.Proofs.YtbnkcbfhappgnaaDoor.CrcB
namespace Go.Proofs.YtbnkcbfhappgnaaDoor.CrcC
open Go.RowKit Go.Proofs.YtbnkcbfhappgnaaDoor.Fn Go.Proofs.YtbnkcbfhappgnaaDoorW.PrintWords Go.Proofs.YtbnkcbfhappgnaaDoorW.PrintLast Go.Proofs.YtbnkcbfhappgnaaDoor.U Go.Proofs.YtbnkcbfhappgnaaDoor.CrcA Go.Proofs.YtbnkcbfhappgnaaDoor.CrcB
end Go.Proofs.YtbnkcbfhappgnaaDoor.CrcC
namespace Go.Proofs.YtbnkcbfhappgnaaDoor.Pure
open Go.RowKit Go.Proofs.YtbnkcbfhappgnaaDoor.Fn Go.Proofs.YtbnkcbfhappgnaaDoorW.PrintWords Go.Proofs.YtbnkcbfhappgnaaDoorW.PrintLast Go.Proofs.YtbnkcbfhappgnaaDoor.U
set_option linter.unusedVariables false
set_option linter.unusedSimpArgs false
theorem wi (i n : Nat) (h : i < n) (hn : n ≤ 1152921504606846976) : wrap64 ((i : Int) + 1) = ((i + 1 : Nat) : Int) := by rw [w64 (by omega) (by omega)]; omega
theorem flat_take (ls : List (List Int)) (i : Nat) (hi : i < ls.length) : (ls.take (i + 1)).flatten = (ls.take i).flatten ++ ls[i] := by
  rw [List.take_succ_eq_append_getElem hi, List.flatten_append]
  simp
theorem flat_take_le (ls : List (List Int)) (i : Nat) : (ls.take i).flatten.length ≤ ls.flatten.length := by
  conv => rhs; rw [← List.take_append_drop i ls]
  rw [List.flatten_append, List.length_append]
  omega
theorem rd1 (ls : List (List Int)) (i : Nat) (hi : i < ls.length) : rd_L2 ls (i : Int) = ls[i] := by
  unfold rd_L2; rw [Int.toNat_natCast, List.getD_eq_getElem?_getD, List.getElem?_eq_getElem hi]; rfl
theorem concat_l1 (ls : List (List Int)) (ht : ls.flatten.length < 1099511627776) (hn : ls.length < 1099511627776) (d : Nat) : ∀ i : Nat, i + d = ls.length → Ev (fun k => slices_Concat_byte_byte.l1 k (ls.take i).flatten ls (ls.length : Int) (i : Int)) ls.flatten := by
  induction d with
  | zero =>
    intro i hi
    obtain rfl : i = ls.length := by omega
    refine Ev.step (f := fun _ => some ls.flatten) (fun k => ?_) (Ev.now _)
    simp only [slices_Concat_byte_byte.l1]
    rw [if_neg (by omega), List.take_length]
  | succ d ih =>
    intro i hi
    have hlt : i < ls.length := by omega
    have h1 := flat_take_le ls (i + 1)
    rw [flat_take ls i hlt, List.length_append] at h1
    refine Ev.step (fun k => ?_) (ih (i + 1) (by omega))
    simp only [slices_Concat_byte_byte.l1]
    rw [if_pos (by omega), if_pos (by omega), if_pos (by omega), rd1 ls i hlt, if_pos (by omega), wi i ls.length hlt (by omega), flat_take ls i hlt]
theorem concat_l0 (ls : List (List Int)) (ht : ls.flatten.length < 1099511627776) (hn : ls.length < 1099511627776) (d : Nat) : ∀ i : Nat, i + d = ls.length → Ev (fun k => slices_Concat_byte_byte.l0 k ls (((ls.take i).flatten.length : Nat) : Int) ls (ls.length : Int) (i : Int)) ls.flatten := by
  induction d with
  | zero =>
    intro i hi
    obtain rfl : i = ls.length := by omega
    refine Ev.step (fun k => ?_) (concat_l1 ls ht hn ls.length 0 (by omega))
    simp only [slices_Concat_byte_byte.l0]
    rw [if_neg (by omega), List.take_length]
    unfold growNil
    rw [if_pos (by omega), if_pos (by omega), Option.bind_some]
    rfl
  | succ d ih =>
    intro i hi
    have hlt : i < ls.length := by omega
    have h1 := flat_take_le ls (i + 1)
    have h2 := flat_take ls i hlt
    have h3 : (ls.take (i + 1)).flatten.length = (ls.take i).flatten.length + ls[i].length := by rw [h2, List.length_append]
    have e1 : wrap64 ((((ls.take i).flatten.length : Nat) : Int) + (ls[i].length : Int)) = (((ls.take (i + 1)).flatten.length : Nat) : Int) := by rw [w64 (by omega) (by omega), h3]; omega
    refine Ev.step (fun k => ?_) (ih (i + 1) (by omega))
    simp only [slices_Concat_byte_byte.l0]
    rw [if_pos (by omega), if_pos (by omega), if_pos (by omega), rd1 ls i hlt, e1, if_neg (by omega), wi i ls.length hlt (by omega)]
theorem concat_ev (ls : List (List Int)) (ht : ls.flatten.length < 1099511627776) (hn : ls.length < 1099511627776) : Ev (fun k => slices_Concat_byte_byte.f k ls) ls.flatten := by
  refine Ev.congr (fun k => ?_) (concat_l0 ls ht hn ls.length 0 (by omega))
  unfold slices_Concat_byte_byte.f
  rfl
theorem refOf_ev (a : Int) (l : List Int) (hb : ∀ x ∈ l, 0 ≤ x ∧ x < 256) (hl : l.length < 140737488355000) : Ev (fun k => q07_Of.f k a l) (keyOf a l) := by
  have hB : ∀ x ∈ (a % 256 :: l), 0 ≤ x ∧ x < 256 := by
    intro x hx
    rcases List.mem_cons.1 hx with rfl | hx
    · omega
    · exact hb x hx
  have hS := refSum_ev (a % 256 :: l) (bytes_Ws hB) (by simp; omega) (check_two _ l (by omega))
  have hT := refText_ev (sumOf (a % 256 :: l)) (by rw [sumOf_length]; decide) (sumOf_range _)
  have hlen : [a % 256].length + l.length < 140737488355328 := by simp; omega
  unfold q07_Of.f keyOf
  generalize sumOf (a % 256 :: l) = s at hS hT
  simp only [Option.bind_some, if_pos hlen, List.singleton_append]
  exact Ev.bind (f := fun k t => (q07_text.f k t).bind fun u => some u) hS (Ev.bind (f := fun _ u => some u) hT (Ev.now _))
abbrev R0 (l : List Nat) := LebA.R (l.take 10) 0 0
def bodyV (kn : Nat) (d : List Nat) : List Nat := [165, kn] ++ (LebA.D (LebA.sz d.length) d.length ++ d)
def rec (kn : Nat) (d : List Nat) : List Nat := CrcA.bytes (bodyV kn d)
theorem bodyV_length (kn : Nat) (d : List Nat) : (bodyV kn d).length = 2 + LebA.sz d.length + d.length := by
  unfold bodyV
  rw [List.length_append, List.length_append, LebA.D_length]
  simp; omega
theorem rec_length (kn : Nat) (d : List Nat) : (rec kn d).length = 6 + LebA.sz d.length + d.length := by
  unfold rec
  rw [CrcA.bytes_length, bodyV_length]; omega
theorem bodyV_lt {kn : Nat} {d : List Nat} (hk : kn < 256) (hd : ∀ x ∈ d, x < 256) (hl : d.length ≤ 8192) : ∀ x ∈ bodyV kn d, x < 256 := by
  have hf := LebA.sz_fit (x := d.length) (by omega)
  intro x hx
  unfold bodyV at hx
  rcases List.mem_append.1 hx with h | h
  · simp at h; omega
  · rcases List.mem_append.1 h with h | h
    · exact LebA.D_lt _ _ hf.2.1 x h
    · exact hd x h
theorem rec_lt {kn : Nat} {d : List Nat} (hk : kn < 256) (hd : ∀ x ∈ d, x < 256) (hl : d.length ≤ 8192) : ∀ x ∈ rec kn d, x < 256 := CrcA.bytes_lt (bodyV_lt hk hd hl)
theorem sz_small {x : Nat} (hx : x ≤ 8192) : LebA.sz x ≤ 10 := LebA.sz_le (by omega)
theorem sz_pos (x : Nat) : 1 ≤ LebA.sz x := by unfold LebA.sz; omega
theorem lebBytes_ev (d : List Nat) (hl : d.length ≤ 8192) : Ev (fun k => leb_Bytes.f k (ofN d)) (ofN (LebA.D (LebA.sz d.length) d.length ++ d)) := by
  have hw : IntKind.u64.wrap ((ofN d).length : Int) = ((d.length : Nat) : Int) := by rw [ofN_length, LebB.wu (by omega) (by omega)]
  have hs := sz_small hl
  refine Ev.congr (fun k => ?_) (Ev.bind (LebB.put_ev (x := d.length) (by omega)) (f := fun _ t => if t.length + (ofN d).length < 140737488355328 then some (t ++ ofN d) else none) ?_)
  · unfold leb_Bytes.f; rw [hw]
  · rw [if_pos (by rw [ofN_length, ofN_length, LebA.D_length]; omega), ← ofN_append]
    exact Ev.now _
theorem putj_ev (kn : Nat) (hk : kn < 256) (s : ByteArray) (d : List Nat) (hd : ∀ x ∈ d, x < 256) (hl : d.length ≤ 8192) : Ev (fun k => frame_Put.j0 k false (kn : Int) s (ofN d)) (ofN (rec kn d), 0) := by
  have hm : ((kn : Int)) % 256 = (kn : Int) := by omega
  have hs := sz_small hl
  have hflat : ([([165, (kn : Int)] : List Int), ofN (LebA.D (LebA.sz d.length) d.length ++ d)] : List (List Int)).flatten = ofN (bodyV kn d) := by
    unfold bodyV
    rw [ofN_append [165, kn]]
    simp [ofN]
  have e3 := concat_ev [([165, (kn : Int)] : List Int), ofN (LebA.D (LebA.sz d.length) d.length ++ d)] (by rw [hflat, ofN_length, bodyV_length]; omega) (by simp)
  rw [hflat] at e3
  have e4 := CrcB.bytes_ev (bodyV kn d) (bodyV_lt hk hd hl) (by rw [bodyV_length]; omega)
  refine Ev.step (f := fun k => (leb_Bytes.f k (ofN d)).bind fun t208 => ((slices_Concat_byte_byte.f k [([165, ((kn : Int)) % 256] : List Int), t208]).bind fun t214 => ((crc_Bytes.f k t214).bind fun t217 => some (t217, (0 : Int))))) (fun k => ?_) ?_
  · simp only [frame_Put.j0]
    rw [if_neg (by decide)]
  · rw [hm]
    refine Ev.bind (lebBytes_ev d hl) ?_
    refine Ev.bind e3 ?_
    exact Ev.bind (f := fun _ t => some (t, (0 : Int))) e4 (Ev.now _)
theorem putno_ev (kn : Int) (s : ByteArray) (d : List Int) : Ev (fun k => frame_Put.j0 k true kn s d) ([], 120) := by
  refine Ev.step (f := fun _ => some (([] : List Int), (120 : Int))) (fun k => ?_) (Ev.now _)
  simp only [frame_Put.j0, if_true]
def sizeV (n : Int) : Int := if n < 0 ∨ n > 8192 then 0 else 6 + (LebA.sz n.toNat : Int) + n
theorem size_ev (n : Int) : frame_Size.f n = some (sizeV n) := by
  unfold frame_Size.f sizeV
  by_cases h0 : n < 0
  · rw [if_pos h0, if_pos (.inl h0)]
  · rw [if_neg h0]
    by_cases h1 : n > 8192
    · rw [if_pos h1, if_pos (.inr h1)]
    · rw [if_neg h1, if_neg (by omega)]
      obtain ⟨x, rfl⟩ := Int.eq_ofNat_of_zero_le (show 0 ≤ n by omega)
      have hs := sz_small (x := x) (by omega)
      have hs' : LebA.sz x ≤ 10 := hs
      rw [LebB.wu (by omega) (by omega), LebB.size_eq (by omega)]
      simp only [Option.bind_some, Int.toNat_natCast]
      have e1 : wrap64 (2 + (LebA.sz x : Int)) = 2 + (LebA.sz x : Int) := w64 (by omega) (by omega)
      have e2 : wrap64 (2 + (LebA.sz x : Int) + (x : Int)) = 2 + (LebA.sz x : Int) + (x : Int) := w64 (by omega) (by omega)
      have e3 : wrap64 (2 + (LebA.sz x : Int) + (x : Int) + 4) = 2 + (LebA.sz x : Int) + (x : Int) + 4 := w64 (by omega) (by omega)
      rw [e1, e2, e3]
      congr 1; omega
theorem kind_eq (n : Int) : frame_kind.f n = some (decide (1 ≤ n ∧ n ≤ 4)) := by
  unfold frame_kind.f
  by_cases h : n ≥ 1
  · rw [if_pos h]
    congr 1
    exact decide_eq_decide.2 ⟨fun h2 => ⟨h, h2⟩, fun h2 => h2.2⟩
  · rw [if_neg h, decide_eq_false (by omega)]
def putV (kind : Int) (s : ByteArray) (d : List Nat) : List Int × Int := if 1 ≤ kind ∧ kind ≤ 4 ∧ d.length ≤ 8192 ∧ (keyOf kind (ofN d)).toList = s.toList then (ofN (rec kind.toNat d), 0) else ([], 120)
theorem framePut_ev (kind : Int) (s : ByteArray) (d : List Nat) (hd : ∀ x ∈ d, x < 256) (hl : d.length < 140737488355000) : Ev (fun k => frame_Put.f k kind s (ofN d)) (putV kind s d) := by
  unfold putV
  by_cases hk : 1 ≤ kind ∧ kind ≤ 4
  · by_cases h8 : d.length ≤ 8192
    · have hz : sizeV ((ofN d).length : Int) ≠ 0 := by
        unfold sizeV
        rw [ofN_length, if_neg (by omega)]
        omega
      have e0 : ∀ k, frame_Put.f k kind s (ofN d) = (key_Of.f k kind (ofN d)).bind fun t204 => frame_Put.j0 k (t204.toList != s.toList) kind s (ofN d) := by
        intro k
        unfold frame_Put.f
        rw [kind_eq, decide_eq_true hk, Option.bind_some, if_pos rfl, size_ev, Option.bind_some, if_neg hz]
      refine Ev.congr e0 (Ev.bind (keyOf_ev kind (ofN d) (by rw [ofN_length]; exact hl)) ?_)
      by_cases hs : (keyOf kind (ofN d)).toList = s.toList
      · rw [if_pos ⟨hk.1, hk.2, h8, hs⟩, show ((keyOf kind (ofN d)).toList != s.toList) = false from bne_eq_false_iff_eq.2 hs]
        obtain ⟨kn, rfl⟩ := Int.eq_ofNat_of_zero_le (show 0 ≤ kind by omega)
        exact putj_ev kn (by omega) s d hd h8
      · rw [if_neg (fun h => hs h.2.2.2), show ((keyOf kind (ofN d)).toList != s.toList) = true from bne_iff_ne.2 hs]
        exact putno_ev _ _ _
    · have hz : sizeV ((ofN d).length : Int) = 0 := by
        unfold sizeV
        rw [ofN_length, if_pos (.inr (by omega))]
      rw [if_neg (fun h => h8 h.2.2.1)]
      refine Ev.congr (fun k => ?_) (putno_ev kind s (ofN d))
      unfold frame_Put.f
      rw [kind_eq, decide_eq_true hk, Option.bind_some, if_pos rfl, size_ev, Option.bind_some, if_pos hz]
  · rw [if_neg (fun h => hk ⟨h.1, h.2.1⟩)]
    refine Ev.congr (fun k => ?_) (putno_ev kind s (ofN d))
    unfold frame_Put.f
    rw [kind_eq, decide_eq_false hk, Option.bind_some, if_neg (by decide)]
abbrev NV := Int × ByteArray × List Int × Int × Int
def noV (e : Int) : NV := (0, ⟨#[]⟩, [], 0, e)
def okV (l : List Nat) (r : Nat × Nat × Nat) : NV := (((l.getD 1 0 : Nat) : Int), keyOf ((l.getD 1 0 : Nat) : Int) (ofN ((l.take (2 + r.2.1 + r.1)).drop (2 + r.2.1))), ofN ((l.take (2 + r.2.1 + r.1)).drop (2 + r.2.1)), ((2 + r.2.1 + r.1 + 4 : Nat) : Int), 0)
def nextR (l : List Nat) (r : Nat × Nat × Nat) : NV :=
  if r.2.2 = 20 then noV 20 else if r.2.2 = 0 then (if 8192 < r.1 then noV 120 else if l.length < 2 + r.2.1 + r.1 + 4 then noV 20 else if CrcA.right (l.take (2 + r.2.1 + r.1 + 4)) = true then okV l r else noV 120) else noV 120
def nextV (l : List Nat) : NV :=
  if l.length = 0 then noV 20 else if l.getD 0 0 = 165 then (if l.length = 1 then noV 20 else if 1 ≤ l.getD 1 0 ∧ l.getD 1 0 ≤ 4 then nextR l (R0 (l.drop 2)) else noV 120) else noV 120
theorem no_eq (a e : Int) (h : e ≠ 0) : frame_no.f a e = some e := by unfold frame_no.f; rw [if_neg h]
theorem nextR_ev (l : List Nat) (hb : ∀ x ∈ l, x < 256) (hl : l.length ≤ 1099511627776) (h2 : 2 ≤ l.length) (h165 : l.getD 0 0 = 165) (hk : 1 ≤ l.getD 1 0 ∧ l.getD 1 0 ≤ 4) : Ev (fun k => frame_next.f k (ofN l)) (nextR l (R0 (l.drop 2))) := by
  have hg := LebB.Get_ev (l := l.drop 2) (fun c h => hb c (List.mem_of_mem_drop h))
  have htop := LebA.R_top (l := (l.drop 2).take 10) (by rw [List.length_take]; omega) (fun c h => hb c (List.mem_of_mem_drop (List.mem_of_mem_take h)))
  generalize hr : LebA.R ((l.drop 2).take 10) 0 0 = r at hg htop
  have hr' : R0 (l.drop 2) = r := hr
  rw [hr']
  have hd : (ofN l).drop 2 = ofN (l.drop 2) := ofN_drop l 2
  have hlen : ((ofN l).length : Int) = (l.length : Int) := by rw [ofN_length]
  have w1 : wrap64 (rd (ofN l) 1) = ((l.getD 1 0 : Nat) : Int) := by rw [rd_ofN]; show wrap64 ((l.getD 1 0 : Nat) : Int) = _; exact w64 (by omega) (by omega)
  have hh : ∀ k, frame_next.f k (ofN l) = (leb_Get.f k (ofN (l.drop 2))).bind fun bt201 => (if bt201.2.2 = 20 then ((frame_no.f 2 bt201.2.2).bind fun t204 => (some (0, (⟨#[]⟩ : ByteArray), ([] : List Int), 0, t204))) else (if bt201.2.2 = 0 then (if bt201.1 > 8192 then ((frame_no.f 2 120).bind fun t205 => (some (0, (⟨#[]⟩ : ByteArray), ([] : List Int), 0, t205))) else (if ((ofN l).length : Int) < (wrap64 ((wrap64 ((wrap64 (2 + bt201.2.1)) + (wrap64 (bt201.1)))) + 4)) then ((frame_no.f ((ofN l).length : Int) 20).bind fun t207 => (some (0, (⟨#[]⟩ : ByteArray), ([] : List Int), 0, t207))) else (if 0 ≤ (wrap64 ((wrap64 ((wrap64 (2 + bt201.2.1)) + (wrap64 (bt201.1)))) + 4)) then (if (wrap64 ((wrap64 ((wrap64 (2 + bt201.2.1)) + (wrap64 (bt201.1)))) + 4)) ≤ ((ofN l).length : Int) then ((crc_Right.f k ((ofN l).take ((wrap64 ((wrap64 ((wrap64 (2 + bt201.2.1)) + (wrap64 (bt201.1)))) + 4)) : Int).toNat)).bind fun t209 => (if t209 = true then (if 0 ≤ (wrap64 (2 + bt201.2.1)) then (if (wrap64 (2 + bt201.2.1)) ≤ (wrap64 ((wrap64 (2 + bt201.2.1)) + (wrap64 (bt201.1)))) then (if (wrap64 ((wrap64 (2 + bt201.2.1)) + (wrap64 (bt201.1)))) ≤ ((ofN l).length : Int) then ((slices_Clone_byte_byte.f (((ofN l).take ((wrap64 ((wrap64 (2 + bt201.2.1)) + (wrap64 (bt201.1)))) : Int).toNat).drop ((wrap64 (2 + bt201.2.1)) : Int).toNat)).bind fun t212 => ((key_Of.f k (wrap64 (rd (ofN l) 1)) t212).bind fun t216 => (some (wrap64 (rd (ofN l) 1), t216, t212, wrap64 ((wrap64 ((wrap64 (2 + bt201.2.1)) + (wrap64 (bt201.1)))) + 4), (0 : Int))))) else (none)) else (none)) else (none)) else ((frame_no.f (wrap64 ((wrap64 (2 + bt201.2.1)) + (wrap64 (bt201.1)))) 120).bind fun t217 => (some (0, (⟨#[]⟩ : ByteArray), ([] : List Int), 0, t217))))) else (none)) else (none)))) else ((frame_no.f 2 120).bind fun t206 => (some (0, (⟨#[]⟩ : ByteArray), ([] : List Int), 0, t206))))) := by
    intro k
    unfold frame_next.f
    rw [if_neg (by omega), if_pos (by omega), if_pos (show rd (ofN l) 0 = 165 by rw [rd_ofN]; simp only [Int.toNat_zero]; omega), if_neg (by omega), if_pos (by omega), w1, kind_eq, decide_eq_true (by omega), Option.bind_some, if_pos rfl, if_pos (by omega), hd]
  refine Ev.congr hh (Ev.bind hg ?_)
  clear hh hg hr hr'
  have W1 := Aside0.mk w1
  have LN := Aside0.mk hlen
  clear w1 hd h165 hk hlen
  unfold nextR LebB.c3
  dsimp only
  rcases htop with ⟨m, x, rfl, htop_, hm, _, hx⟩ | ⟨e, rfl, he⟩
  · dsimp only
    have hm10 : m ≤ 10 := by rw [List.length_take] at hm; omega
    simp only [if_neg (show ¬ ((0 : Nat) : Int) = 20 by decide), if_pos (show ((0 : Nat) : Int) = 0 from rfl), if_neg (show ¬ (0 : Nat) = 20 by decide), if_true]
    by_cases h8 : 8192 < x
    · simp only [if_pos (show (x : Int) > 8192 by omega), if_pos h8, no_eq _ _ (show (120 : Int) ≠ 0 by decide), Option.bind_some]
      exact Ev.now _
    · have hx8 : x ≤ 8192 := Nat.le_of_not_lt h8
      clear hx htop_
      have e1 : wrap64 (2 + (m : Int)) = ((2 + m : Nat) : Int) := by rw [w64 (by omega) (by omega)]; omega
      have e0 : wrap64 (x : Int) = (x : Int) := w64 (by omega) (by omega)
      have e2 : wrap64 (((2 + m : Nat) : Int) + (x : Int)) = ((2 + m + x : Nat) : Int) := by rw [w64 (by omega) (by omega)]; omega
      have e3 : wrap64 (((2 + m + x : Nat) : Int) + 4) = ((2 + m + x + 4 : Nat) : Int) := by rw [w64 (by omega) (by omega)]; omega
      simp only [if_neg (show ¬ (x : Int) > 8192 by omega), if_neg h8, e1, e0, e2, e3, LN.out]
      by_cases hs : l.length < 2 + m + x + 4
      · simp only [if_pos (show (l.length : Int) < ((2 + m + x + 4 : Nat) : Int) by omega), if_pos hs, no_eq _ _ (show (20 : Int) ≠ 0 by decide), Option.bind_some]
        exact Ev.now _
      · simp only [if_neg (show ¬ (l.length : Int) < ((2 + m + x + 4 : Nat) : Int) by omega), if_neg hs, if_pos (show (0 : Int) ≤ ((2 + m + x + 4 : Nat) : Int) by omega), if_pos (show ((2 + m + x + 4 : Nat) : Int) ≤ (l.length : Int) by omega), Int.toNat_natCast, ofN_take]
        refine Ev.bind (CrcB.right_ev (l.take (2 + m + x + 4)) (fun c h => hb c (List.mem_of_mem_take h)) (by rw [List.length_take]; omega)) ?_
        by_cases hR : CrcA.right (l.take (2 + m + x + 4)) = true
        · simp only [hR, if_true]
          simp only [if_pos (show (0 : Int) ≤ ((2 + m : Nat) : Int) by omega), if_pos (show ((2 + m : Nat) : Int) ≤ ((2 + m + x : Nat) : Int) by omega), if_pos (show ((2 + m + x : Nat) : Int) ≤ (l.length : Int) by omega), Int.toNat_natCast, ofN_take, ofN_drop, W1.out]
          have hlen2 : (ofN ((l.take (2 + m + x)).drop (2 + m))).length ≤ l.length := by rw [ofN_length, List.length_drop, List.length_take]; omega
          have hcl : slices_Clone_byte_byte.f (ofN ((l.take (2 + m + x)).drop (2 + m))) = some (ofN ((l.take (2 + m + x)).drop (2 + m))) := by unfold slices_Clone_byte_byte.f; rw [if_pos (by omega)]
          simp only [hcl, Option.bind_some]
          exact Ev.bind (f := fun _ t => some (((l.getD 1 0 : Nat) : Int), t, ofN ((l.take (2 + m + x)).drop (2 + m)), ((2 + m + x + 4 : Nat) : Int), (0 : Int))) (keyOf_ev _ _ (by omega)) (Ev.now _)
        · simp only [Bool.eq_false_iff.2 hR, no_eq _ _ (show (120 : Int) ≠ 0 by decide), Option.bind_some]
          simp only [Bool.false_eq_true, if_false]
          exact Ev.now _
  · dsimp only
    rcases he with rfl | rfl
    · simp only [if_pos (show ((20 : Nat) : Int) = 20 from rfl), if_true, no_eq _ _ (show ((20 : Nat) : Int) ≠ 0 by decide), Option.bind_some]
      exact Ev.now _
    · simp only [if_neg (show ¬ ((21 : Nat) : Int) = 20 by decide), if_neg (show ¬ ((21 : Nat) : Int) = 0 by decide), if_neg (show ¬ (21 : Nat) = 20 by decide), if_neg (show ¬ (21 : Nat) = 0 by decide), no_eq _ _ (show (120 : Int) ≠ 0 by decide), Option.bind_some]
      exact Ev.now _
theorem next_ev (l : List Nat) (hb : ∀ x ∈ l, x < 256) (hl : l.length ≤ 1099511627776) : Ev (fun k => frame_next.f k (ofN l)) (nextV l) := by
  have hlen : ((ofN l).length : Int) = (l.length : Int) := by rw [ofN_length]
  unfold nextV
  by_cases h0 : l.length = 0
  · rw [if_pos h0]
    refine Ev.congr (fun k => ?_) (Ev.now _)
    unfold frame_next.f
    rw [if_pos (by omega), no_eq _ _ (by decide)]; rfl
  rw [if_neg h0]
  by_cases h1 : l.getD 0 0 = 165
  · rw [if_pos h1]
    by_cases h2 : l.length = 1
    · rw [if_pos h2]
      refine Ev.congr (fun k => ?_) (Ev.now _)
      unfold frame_next.f
      rw [if_neg (by omega), if_pos (by omega), if_pos (show rd (ofN l) 0 = 165 by rw [rd_ofN]; simp only [Int.toNat_zero]; omega), if_pos (by omega), no_eq _ _ (by decide)]; rfl
    · rw [if_neg h2]
      by_cases hk : 1 ≤ l.getD 1 0 ∧ l.getD 1 0 ≤ 4
      · rw [if_pos hk]
        exact nextR_ev l hb hl (by omega) h1 hk
      · rw [if_neg hk]
        have w1 : wrap64 (rd (ofN l) 1) = ((l.getD 1 0 : Nat) : Int) := by
          have : l.getD 1 0 < 256 := by rw [List.getD_eq_getElem?_getD, List.getElem?_eq_getElem (show 1 < l.length by omega)]; exact hb _ (List.getElem_mem _)
          rw [rd_ofN]; show wrap64 ((l.getD 1 0 : Nat) : Int) = _; exact w64 (by omega) (by omega)
        refine Ev.congr (fun k => ?_) (Ev.now _)
        unfold frame_next.f
        rw [if_neg (by omega), if_pos (by omega), if_pos (show rd (ofN l) 0 = 165 by rw [rd_ofN]; simp only [Int.toNat_zero]; omega), if_neg (by omega), if_pos (by omega), w1, kind_eq, decide_eq_false (by omega), Option.bind_some, if_neg (by decide), no_eq _ _ (by decide)]; rfl
  · rw [if_neg h1]
    refine Ev.congr (fun k => ?_) (Ev.now _)
    unfold frame_next.f
    rw [if_neg (by omega), if_pos (by omega), if_neg (show ¬ rd (ofN l) 0 = 165 by rw [rd_ofN]; simp only [Int.toNat_zero]; omega), no_eq _ _ (by decide)]; rfl
end Go.Proofs.YtbnkcbfhappgnaaDoor.Pure
namespace Go.Proofs.YtbnkcbfhappgnaaDoor.Pure
open Go.RowKit Go.Proofs.YtbnkcbfhappgnaaDoor.Fn Go.Proofs.YtbnkcbfhappgnaaDoorW.PrintWords Go.Proofs.YtbnkcbfhappgnaaDoorW.PrintLast Go.Proofs.YtbnkcbfhappgnaaDoor.U
set_option linter.unusedVariables false
set_option linter.unusedSimpArgs false
theorem rec_form (kn : Nat) (d : List Nat) : ∃ c : List Nat, c.length = 4 ∧ rec kn d = 165 :: kn :: (LebA.D (LebA.sz d.length) d.length ++ (d ++ c)) := by
  refine ⟨CrcA.bytes4 (4294967295 ^^^ CrcA.F 4294967295 (bodyV kn d)), rfl, ?_⟩
  unfold rec CrcA.bytes
  generalize CrcA.bytes4 (4294967295 ^^^ CrcA.F 4294967295 (bodyV kn d)) = c
  unfold bodyV
  simp
theorem next_rec (kn : Nat) (h1 : 1 ≤ kn) (h4 : kn ≤ 4) (d rest : List Nat) (hl : d.length ≤ 8192) : nextV (rec kn d ++ rest) = ((kn : Int), keyOf (kn : Int) (ofN d), ofN d, ((rec kn d).length : Int), 0) := by
  have hlen := rec_length kn d
  have hs := sz_small hl
  have hs1 := sz_pos d.length
  have hR : CrcA.right (rec kn d) = true := CrcA.right_bytes
  obtain ⟨c, hc, hf⟩ := rec_form kn d
  have hfit := LebA.sz_fit (x := d.length) (by omega)
  have hDl := LebA.D_length (LebA.sz d.length) d.length
  have hRD : R0 ((rec kn d ++ rest).drop 2) = (d.length, LebA.sz d.length, 0) := by
    have e : (rec kn d ++ rest).drop 2 = LebA.D (LebA.sz d.length) d.length ++ (d ++ c ++ rest) := by rw [hf]; simp
    show LebA.R (((rec kn d ++ rest).drop 2).take 10) 0 0 = _
    rw [e, List.take_append, hDl, List.take_of_length_le (by rw [hDl]; exact hs)]
    have := LebA.R_D (LebA.sz d.length) d.length 0 0 ((d ++ c ++ rest).take (10 - LebA.sz d.length)) hfit (fun _ => .inl rfl) (by omega) (by omega)
    rw [this]
    simp
  have hLlen : (rec kn d ++ rest).length = 6 + LebA.sz d.length + d.length + rest.length := by rw [List.length_append, hlen]
  have g0 : (rec kn d ++ rest).getD 0 0 = 165 := by rw [hf]; rfl
  have g1 : (rec kn d ++ rest).getD 1 0 = kn := by rw [hf]; rfl
  have ht : (rec kn d ++ rest).take (2 + LebA.sz d.length + d.length + 4) = rec kn d := List.take_left' (by omega)
  have hmid : ((rec kn d ++ rest).take (2 + LebA.sz d.length + d.length)).drop (2 + LebA.sz d.length) = d := by
    rw [List.drop_take, hf, show 2 + LebA.sz d.length + d.length - (2 + LebA.sz d.length) = d.length by omega]
    have : (165 :: kn :: (LebA.D (LebA.sz d.length) d.length ++ (d ++ c)) ++ rest).drop (2 + LebA.sz d.length) = d ++ c ++ rest := by
      rw [show (165 :: kn :: (LebA.D (LebA.sz d.length) d.length ++ (d ++ c)) ++ rest) = (165 :: kn :: LebA.D (LebA.sz d.length) d.length) ++ (d ++ c ++ rest) by simp]
      exact List.drop_left' (by simp [hDl]; omega)
    rw [this, List.append_assoc, List.take_left' rfl]
  unfold nextV
  rw [if_neg (by omega), if_pos g0, if_neg (by omega), g1, if_pos ⟨h1, h4⟩, hRD]
  unfold nextR
  dsimp only
  rw [if_neg (by decide), if_pos rfl, if_neg (by omega), if_neg (by omega), ht, if_pos hR]
  unfold okV
  dsimp only
  rw [g1, hmid, hlen]
  simp only [Prod.mk.injEq, true_and]
  exact ⟨by omega, trivial⟩
inductive Chain (l : List Nat) : Nat → List (S29) → List Int → Nat → Prop
  | stop (at_ : Nat) (h : (nextV (l.drop at_)).2.2.2.2 ≠ 0) : Chain l at_ [] [] at_
  | more (at_ n e : Nat) (rs : List (S29)) (ps : List Int) (a : Int) (s : ByteArray) (d : List Int) (h : nextV (l.drop at_) = (a, s, d, (n : Int), 0)) (hn : at_ + n ≤ l.length) (h2 : Chain l (at_ + n) rs ps e) : Chain l at_ (⟨a, s, d⟩ :: rs) ((at_ : Int) :: ps) e
theorem scan_chain (l : List Nat) (hb : ∀ x ∈ l, x < 256) (hl : l.length ≤ 1099511627776) {at_ e : Nat} {rs : List (S29)} {ps : List Int} (hc : Chain l at_ rs ps e) : at_ ≤ l.length → ∀ (x5 : List (S29)) (x6 : List Int), x5.length + rs.length < 2932031007402 → x6.length + ps.length < 17592186044416 → Ev (fun k => frame_Scan.l0 k (ofN l) x5 x6 (at_ : Int)) (x5 ++ rs, x6 ++ ps, (e : Int)) := by
  have hstep : ∀ (at_ : Nat) (x5 : List (S29)) (x6 : List Int) (r : List (S29) × List Int × Int), at_ ≤ l.length → Ev (fun k => if (nextV (l.drop at_)).2.2.2.2 = 0 then (if x5.length < 2932031007402 then (if x6.length < 17592186044416 then (frame_Scan.l0 k (ofN l) (x5 ++ [(⟨(nextV (l.drop at_)).1, (nextV (l.drop at_)).2.1, (nextV (l.drop at_)).2.2.1⟩ : S29)]) (x6 ++ [(at_ : Int)]) (wrap64 ((at_ : Int) + (nextV (l.drop at_)).2.2.2.1))) else none) else none) else some (x5, x6, (at_ : Int))) r → Ev (fun k => frame_Scan.l0 k (ofN l) x5 x6 (at_ : Int)) r := by
    intro at_ x5 x6 r hat h
    refine Ev.step (f := fun k => (frame_next.f k (ofN (l.drop at_))).bind fun bt => if bt.2.2.2.2 = 0 then (if x5.length < 2932031007402 then (if x6.length < 17592186044416 then (frame_Scan.l0 k (ofN l) (x5 ++ [(⟨bt.1, bt.2.1, bt.2.2.1⟩ : S29)]) (x6 ++ [(at_ : Int)]) (wrap64 ((at_ : Int) + bt.2.2.2.1))) else none) else none) else some (x5, x6, (at_ : Int))) (fun k => ?_) (Ev.bind (next_ev (l.drop at_) (fun x hx => hb x (List.mem_of_mem_drop hx)) (by rw [List.length_drop]; omega)) h)
    simp only [frame_Scan.l0]
    rw [if_pos (by omega), if_pos (by rw [ofN_length]; omega), Int.toNat_natCast, ofN_drop]
  induction hc with
  | stop at_ h =>
    intro hat x5 x6 h5 h6
    refine hstep at_ x5 x6 _ hat ?_
    simp only [if_neg h, List.append_nil]
    exact Ev.now _
  | more at_ n e rs ps a s d h hn h2 ih =>
    intro hat x5 x6 h5 h6
    refine hstep at_ x5 x6 _ hat ?_
    rw [h]
    simp only [if_true]
    have h5' : x5.length < 2932031007402 := by simp at h5; omega
    have h6' : x6.length < 17592186044416 := by simp at h6; omega
    have hw : wrap64 ((at_ : Int) + (n : Int)) = ((at_ + n : Nat) : Int) := by rw [w64 (by omega) (by omega)]; omega
    simp only [if_pos h5', if_pos h6', hw]
    have := ih hn (x5 ++ [⟨a, s, d⟩]) (x6 ++ [(at_ : Int)]) (by simp at h5 ⊢; omega) (by simp at h6 ⊢; omega)
    rw [List.append_assoc, List.append_assoc] at this
    exact this
theorem scan_ev (l : List Nat) (hb : ∀ x ∈ l, x < 256) (hl : l.length ≤ 1099511627776) {e : Nat} {rs : List (S29)} {ps : List Int} (hc : Chain l 0 rs ps e) (hr : rs.length < 2932031007402) (hp : ps.length < 17592186044416) : Ev (fun k => frame_Scan.f k (ofN l)) (rs, ps, (e : Int)) := by
  have := scan_chain l hb hl hc (Nat.zero_le _) [] [] (by simpa using hr) (by simpa using hp)
  exact this
theorem Next_ev (l : List Nat) (hb : ∀ x ∈ l, x < 256) (hl : l.length ≤ 1099511627776) : Ev (fun k => frame_Next.f k (ofN l)) ((nextV l).1, (nextV l).2.1, (nextV l).2.2.1, (nextV l).2.2.2.1, frame_errno.f (nextV l).2.2.2.2) := by
  exact Ev.bind (f := fun _ (bt : NV) => some (bt.1, bt.2.1, bt.2.2.1, bt.2.2.2.1, frame_errno.f bt.2.2.2.2)) (next_ev l hb hl) (Ev.now _)
theorem hex2_length (l : List Int) : (l.flatMap hex2).length = 2 * l.length := by
  induction l with
  | nil => rfl
  | cons x l ih => rw [List.flatMap_cons, List.length_append, ih]; simp [hex2]; omega
theorem keyOf_ne (a : Int) (l : List Int) : ¬ (keyOf a l).toList = (⟨#[]⟩ : ByteArray).toList := by
  intro h
  rw [Lib.toList_data, Lib.toList_data] at h
  have h2 := congrArg List.length h
  have h3 : (keyOf a l).data.toList.length = 64 := by
    have : (keyOf a l).size = 64 := by
      unfold keyOf hexOf
      rw [str_size, hex2_length, sumOf_length]
    rw [Array.length_toList]
    exact this
  rw [h3] at h2
  exact absurd h2 (by decide)
theorem made_ev (a : Int) (d : List Nat) (hd : ∀ x ∈ d, x < 256) (hl : d.length < 140737488355000) : Ev (fun k => l12_made.f k a (ofN d)) (a, keyOf a (ofN d), ofN d) := by
  refine Ev.bind (f := fun _ t => some (a, t, ofN d)) (refOf_ev a (ofN d) (fun x hx => ?_) (by rw [ofN_length]; exact hl)) (Ev.now _)
  unfold ofN at hx
  obtain ⟨y, hy, rfl⟩ := List.mem_map.1 hx
  have := hd y hy
  exact ⟨Int.natCast_nonneg _, by show (y : Int) < 256; omega⟩
set_option maxRecDepth 100000 in
theorem heads_ev : Ev (fun k => l12_heads.f k) true := by
  have h5 : ∀ x ∈ [5], x < 256 := by decide
  have hlen : (rec 1 [5]).length = 8 := by rw [rec_length]; rfl
  have hreclt : ∀ x ∈ rec 1 [5], x < 256 := rec_lt (by decide) h5 (by decide)
  have m := made_ev 1 [5] h5 (by decide)
  have p1 := framePut_ev 1 (keyOf 1 (ofN [5])) [5] h5 (by decide)
  have p2 := framePut_ev 1 (⟨#[]⟩ : ByteArray) [5] h5 (by decide)
  rw [show putV 1 (keyOf 1 (ofN [5])) [5] = (ofN (rec 1 [5]), 0) from if_pos ⟨by decide, by decide, by decide, rfl⟩] at p1
  rw [show putV 1 (⟨#[]⟩ : ByteArray) [5] = ([], 120) from if_neg (fun h => keyOf_ne _ _ h.2.2.2)] at p2
  have hdrop : (rec 1 [5] ++ [0, 0]).drop 8 = [0, 0] := List.drop_left' hlen
  have ch : Chain (rec 1 [5] ++ [0, 0]) 0 [⟨1, keyOf 1 (ofN [5]), ofN [5]⟩] [((0 : Nat) : Int)] 8 := by
    refine Chain.more 0 8 8 [] [] 1 (keyOf 1 (ofN [5])) (ofN [5]) ?_ (by rw [List.length_append, hlen]; decide) (Chain.stop (0 + 8) ?_)
    · rw [List.drop_zero, next_rec 1 (by decide) (by decide) [5] [0, 0] (by decide), hlen]; rfl
    · rw [Nat.zero_add, hdrop]; decide
  have sc := scan_ev (rec 1 [5] ++ [0, 0]) (fun x hx => by
    rcases List.mem_append.1 hx with h | h
    · exact hreclt x h
    · simp at h; omega) (by rw [List.length_append, hlen]; decide) ch (by decide) (by decide)
  obtain ⟨c, hc, hf⟩ := rec_form 1 [5]
  have htk : (rec 1 [5]).take 4 = [165, 1, 1, 5] := by rw [hf]; rfl
  have nx := Next_ev ((rec 1 [5]).take 4) (fun x hx => hreclt x (List.mem_of_mem_take hx)) (by rw [htk]; decide)
  rw [show nextV ((rec 1 [5]).take 4) = noV 20 by rw [htk]; rfl] at nx
  have hin := ref06_Ints_ev [((0 : Nat) : Int)] (by decide)
  have hw : wrap64 ((8 : Int) / 2) = ((4 : Nat) : Int) := by rw [w64 (by decide) (by decide)]; rfl
  unfold l12_heads.f
  refine Ev.bind m ?_
  refine Ev.bind p1 ?_
  simp only [Option.bind_some, List.nil_append, List.length_nil, Nat.zero_add]
  have l1 : (ofN (rec 1 [5])).length < 140737488355328 := by rw [ofN_length, hlen]; decide
  have l2 : (ofN (rec 1 [5])).length + [(0 : Int), 0].length < 140737488355328 := by rw [ofN_length, hlen]; decide
  have l3 : ((ofN (rec 1 [5])).length : Int) = 8 := by rw [ofN_length, hlen]; rfl
  simp only [if_pos l1, if_pos l2, l3, hw]
  rw [show ofN (rec 1 [5]) ++ [(0 : Int), 0] = ofN (rec 1 [5] ++ [0, 0]) by rw [ofN_append]; rfl]
  refine Ev.bind sc ?_
  refine Ev.bind p2 ?_
  rw [Int.toNat_natCast, ofN_take]
  simp only [if_pos (show (0 : Int) ≤ ((4 : Nat) : Int) by decide), if_pos (show ((4 : Nat) : Int) ≤ 8 by decide)]
  refine Ev.bind nx ?_
  simp only [if_true, size_ev, Option.bind_some, show sizeV 1 = 8 from rfl, if_pos (show ((([⟨1, keyOf 1 (ofN [5]), ofN [5]⟩] : List (S29)).length : Nat) : Int) = 1 from rfl)]
  refine Ev.bind hin ?_
  simp only [if_true, if_pos (show ((8 : Nat) : Int) = 8 from rfl)]
  rw [show (frame_errno.f (noV 20).2.2.2.2 == 20) = true from rfl]
  exact Ev.now _
theorem heads_bind : Ev (fun k => (l12_heads.f k).bind fun t => some t) true := Ev.bind (f := fun _ t => some t) heads_ev (Ev.now _)
end Go.Proofs.YtbnkcbfhappgnaaDoor.Pure
