import Derived.Test.YtigbmfogfgbmfaaDoorLebA
import Derived.Test.YtigbmfogfgbmfaaDoorU
import Derived.Test.YtigbmfogfgbmfaaDoorO
import Derived.Test.YtigbmfogfgbmfaaDoorHx0
import Derived.Test.YtigbmfogfgbmfaaDoorHx1
namespace Go.Proofs.YtigbmfogfgbmfaaDoor.LebB
open Go.RowKit Go.Proofs.YtigbmfogfgbmfaaDoor.Fn Go.Proofs.YtigbmfogfgbmfaaDoorW.PrintWords Go.Proofs.YtigbmfogfgbmfaaDoorW.PrintLast Go.Proofs.YtigbmfogfgbmfaaDoor.U Go.Proofs.YtigbmfogfgbmfaaDoor.LebA
set_option linter.unusedVariables false
set_option linter.unusedSimpArgs false
theorem wu {x : Int} (h0 : 0 ≤ x) (h1 : x < 18446744073709551616) : IntKind.u64.wrap x = x := by rw [IntKind.wrap_u64]; omega
theorem size_eq {x : Nat} (hx : x < 18446744073709551616) : leb_Size.f (x : Int) = some ((sz x : Nat) : Int) := by
  unfold leb_Size.f bits_Len64.f
  rw [if_pos (by omega), if_pos (by omega)]
  simp only [Option.bind_some, Int.toNat_natCast]
  have hb := Lib.bitLen_le x 64 (Nat.le_refl _) hx
  unfold sz
  generalize Lib.bitLen x = b at hb ⊢
  have e1 : wrap64 ((b : Int) + 7) = (b : Int) + 7 := w64 (by omega) (by omega)
  have e2 : wrap64 ((b : Int) + 7 - 1) = (b : Int) + 6 := by rw [w64 (by omega) (by omega)]; omega
  have e3 : Int.tdiv ((b : Int) + 6) 7 = (((b + 6) / 7 : Nat) : Int) := by
    rw [Int.tdiv_eq_ediv_of_nonneg (by omega)]
    omega
  rw [e1, e2, e3]
  have e4 : wrap64 (((b + 6) / 7 : Nat) : Int) = (((b + 6) / 7 : Nat) : Int) := w64 (by omega) (by omega)
  rw [e4]
  unfold mx
  congr 1
  split <;> omega
theorem or128 (y : Nat) (h : y < 256) : y ||| 128 = y % 128 + 128 := by
  have : ∀ z : Fin 256, z.val ||| 128 = z.val % 128 + 128 := by decide +kernel
  exact this ⟨y, h⟩
theorem andNot128 (y : Nat) (h : y < 256) : Go.bits .andNot .u8 (y : Int) 128 = ((y % 128 : Nat) : Int) := by
  have e := u8_andNot_nat y 128 h (by decide)
  have e2 : y &&& (255 - 128) = y % 128 := nat_mask7 y
  rw [e2] at e
  exact e
theorem put_l0 (x m : Nat) (h1 : 1 ≤ m) (hm : m ≤ 10) (d : Nat) : ∀ i : Nat, i + d = m →
    Ev (fun k => leb_Put.l0 k (x : Int) (ofN (G i x ++ List.replicate d 0)) (m : Int) (i : Int)) (ofN (G (m - 1) x ++ [x / 128 ^ (m - 1) % 128])) := by
  induction d with
  | zero =>
    intro i hi
    have him : i = m := by omega
    subst him
    refine Ev.step (fun k => ?_) (Ev.now _)
    simp only [leb_Put.l0, List.replicate_zero, List.append_nil]
    have hl : (ofN (G i x)).length = i := by rw [ofN_length, G_length]
    have e1 : wrap64 ((i : Int) - 1) = ((i - 1 : Nat) : Int) := by rw [w64 (by omega) (by omega)]; omega
    rw [if_neg (by omega), hl, e1, if_pos (by omega), if_pos (by omega), Int.toNat_natCast]
    obtain ⟨j, rfl⟩ : ∃ j, i = j + 1 := ⟨i - 1, by omega⟩
    rw [Nat.add_sub_cancel, G_snoc]
    have hr : rd (ofN (G j x ++ [x / 128 ^ j % 128 + 128])) (j : Int) = ((x / 128 ^ j % 128 + 128 : Nat) : Int) := rd_at (G j x) [] _ _ (by rw [G_length])
    rw [hr, andNot128 _ (by omega), ofN_set]
    congr 2
    have hs : (G j x ++ [x / 128 ^ j % 128 + 128]).set j ((x / 128 ^ j % 128 + 128) % 128) = G j x ++ [(x / 128 ^ j % 128 + 128) % 128] := by
      rw [List.set_append_right _ _ (by rw [G_length]; omega), G_length, Nat.sub_self]
      rfl
    rw [hs]
    congr 2
    omega
  | succ d ih =>
    intro i hi
    refine Ev.step (fun k => ?_) (ih (i + 1) (by omega))
    simp only [leb_Put.l0]
    have hl : (ofN (G i x ++ List.replicate (d + 1) 0)).length = m := by rw [ofN_length, List.length_append, G_length, List.length_replicate]; omega
    have e7 : wrap64 (7 * (i : Int)) = ((7 * i : Nat) : Int) := by rw [w64 (by omega) (by omega)]; omega
    have ei : wrap64 ((i : Int) + 1) = ((i + 1 : Nat) : Int) := by rw [w64 (by omega) (by omega)]; omega
    rw [if_pos (by omega), e7, if_pos (by omega), if_pos (by omega), hl, if_pos (by omega), ei]
    have hs : shr .u64 (x : Int) ((7 * i : Nat) : Int) = ((x / 128 ^ i : Nat) : Int) := by
      rw [shr_nat .u64 x (7 * i) _ rfl (by show 7 * i ≤ 64; omega), pow7]
    rw [hs]
    have hb : Go.bits .or .u8 (((x / 128 ^ i : Nat) : Int) % 256) 128 = ((x / 128 ^ i % 128 + 128 : Nat) : Int) := by
      have e : ((x / 128 ^ i : Nat) : Int) % 256 = ((x / 128 ^ i % 256 : Nat) : Int) := by omega
      rw [e]
      have e2 := u8_or_nat (x / 128 ^ i % 256) 128 (by omega) (by decide)
      rw [or128 _ (by omega)] at e2
      have e3 : x / 128 ^ i % 256 % 128 = x / 128 ^ i % 128 := by omega
      rw [e3] at e2
      exact e2
    rw [hb, Int.toNat_natCast, ofN_set]
    have he : (G i x ++ List.replicate (d + 1) 0).set i (x / 128 ^ i % 128 + 128) = G (i + 1) x ++ List.replicate d 0 := by
      rw [List.set_append_right _ _ (by rw [G_length]; omega), G_length, Nat.sub_self, List.replicate_succ, List.set_cons_zero, G_snoc, List.append_assoc]
      rfl
    rw [he]
theorem last_digit {m x : Nat} (h : Fit m x) : G (m - 1) x ++ [x / 128 ^ (m - 1) % 128] = D m x := by
  obtain ⟨j, rfl⟩ : ∃ j, m = j + 1 := ⟨m - 1, by have := h.1; omega⟩
  rw [Nat.add_sub_cancel, D_snoc]
  congr 2
  apply Nat.mod_eq_of_lt
  rw [Nat.div_lt_iff_lt_mul (pow_pos' j)]
  have := h.2.1
  rw [Nat.pow_succ, Nat.mul_comm] at this
  exact this
theorem put_ev {x : Nat} (hx : x < 18446744073709551616) : Ev (fun k => leb_Put.f k (x : Int)) (ofN (D (sz x) x)) := by
  have hf := sz_fit hx
  have hs := sz_le hx
  have h1 := hf.1
  rw [← last_digit hf]
  refine Ev.congr (fun k => ?_) (put_l0 x (sz x) h1 hs (sz x) 0 (by omega))
  unfold leb_Put.f
  rw [size_eq hx]
  simp only [Option.bind_some]
  rw [if_pos (by omega), Int.toNat_natCast, if_pos (by omega)]
  have e : (List.replicate (sz x) (0 : Int)) = ofN (G 0 x ++ List.replicate (sz x) 0) := by simp [G, ofN]
  have el : ((List.replicate (sz x) (0 : Int)).length : Int) = ((sz x : Nat) : Int) := by rw [List.length_replicate]
  rw [el, e]
  rfl
end Go.Proofs.YtigbmfogfgbmfaaDoor.LebB
