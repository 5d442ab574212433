/- LebSizes: greater numbers have as many bytes, or more, and just as many as they need: at every two numbers. No condition. -/
import Derived.Test.YtnlndcidnomioaaDoorLebB
import Derived.Test.YtnlndcidnomioaaDoorHx0
import Derived.Test.YtnlndcidnomioaaDoorHx3
namespace Go.Proofs.YtnlndcidnomioaaDoor.Pure
open Go.RowKit Go.Proofs.YtnlndcidnomioaaDoor.Fn Go.Proofs.YtnlndcidnomioaaDoorW.PrintWords Go.Proofs.YtnlndcidnomioaaDoorW.PrintLast Go.Proofs.YtnlndcidnomioaaDoor.U Go.Proofs.YtnlndcidnomioaaDoor.LebA Go.Proofs.YtnlndcidnomioaaDoor.LebB
theorem LebSizes : palimpsestlaw02_LebSizes.Pure := by
  intro x0 y0 hx0 hy0
  have hx1 := u64_range hx0
  have hy1 := u64_range hy0
  obtain ⟨x, rfl⟩ := Int.eq_ofNat_of_zero_le hx1.1
  obtain ⟨y, rfl⟩ := Int.eq_ofNat_of_zero_le hy1.1
  have hx : x < 18446744073709551616 := by omega
  have hy : y < 18446744073709551616 := by omega
  clear hx0 hy0 hx1 hy1
  have fx := sz_fit hx
  have hs := sz_le hx
  have hmono : x ≤ y → sz x ≤ sz y := fun h => fx.mono (sz_fit hy) h
  apply Ev.rounds
  have hput := put_ev hx
  have hlen : ((ofN (D (sz x) x)).length : Int) = ((sz x : Nat) : Int) := by rw [ofN_length, D_length]
  have f1 := fx.1
  have j0 : Ev (fun k => palimpsestlaw02_LebSizes.j0 k (x : Int) ((sz x : Nat) : Int) false) true := by
    have f2 := fx.2.1
    have f3 := fx.2.2
    clear hmono hput hlen
    generalize sz x = m at *
    have e7 : IntKind.u64.wrap (wrap64 (7 * (m : Int))) = ((7 * m : Nat) : Int) := by rw [w64 (by omega) (by omega), wu (by omega) (by omega)]; omega
    have e8 : IntKind.u64.wrap (wrap64 (wrap64 (7 * (m : Int)) - 7)) = ((7 * (m - 1) : Nat) : Int) := by rw [w64 (x := 7 * (m : Int)) (by omega) (by omega), w64 (by omega) (by omega), wu (by omega) (by omega)]; omega
    have s7 : m < 10 → shr .u64 (x : Int) ((7 * m : Nat) : Int) = 0 := by
      intro h
      rw [shr_nat .u64 x (7 * m) _ rfl (by show 7 * m ≤ 64; omega), pow7, Nat.div_eq_of_lt f2]
      rfl
    have s8 : m > 1 → ¬ shr .u64 (x : Int) ((7 * (m - 1) : Nat) : Int) = 0 := by
      intro h
      rw [shr_nat .u64 x (7 * (m - 1)) _ rfl (by show 7 * (m - 1) ≤ 64; omega), pow7]
      have h1 : 128 ^ (m - 1) ≤ x := by rcases f3 with h | h; (· omega); exact h
      have h2 : 0 < x / 128 ^ (m - 1) := Nat.div_pos h1 (pow_pos' _)
      omega
    refine Ev.step (f := fun k => (palimpsestlaw02_heads.f k).bind fun t => some t) (fun k => ?_) heads_bind
    simp only [palimpsestlaw02_LebSizes.j0]
    rw [if_neg (by simp), e7, e8]
    by_cases h10 : m < 10
    · rw [if_pos (by omega), if_pos (by omega), if_pos (s7 h10)]
      by_cases h1 : m > 1
      · rw [if_pos (by omega), if_pos (by omega), if_neg (s8 h1)]
      · rw [if_neg (by omega)]
    · rw [if_neg (by omega), if_pos (by omega), if_pos (by omega), if_neg (s8 (by omega))]
  have rest : Ev (fun k => (leb_Put.f k (x : Int)).bind fun t => if (t.length : Int) = ((sz x : Nat) : Int) then (if ((sz x : Nat) : Int) < 1 then (palimpsestlaw02_LebSizes.j0 k (x : Int) ((sz x : Nat) : Int) true) else (palimpsestlaw02_LebSizes.j0 k (x : Int) ((sz x : Nat) : Int) (decide (((sz x : Nat) : Int) > 10)))) else (palimpsestlaw02_LebSizes.j0 k (x : Int) ((sz x : Nat) : Int) true)) true := by
    refine Ev.bind hput (Ev.congr (fun k => ?_) j0)
    rw [if_pos hlen, if_neg (by omega), decide_eq_false (by omega)]
  refine Ev.congr (fun k => ?_) rest
  unfold palimpsestlaw02_LebSizes.f
  rw [size_eq hx]
  simp only [Option.bind_some]
  by_cases hxy : x ≤ y
  · rw [if_pos (by omega), size_eq hy]
    simp only [Option.bind_some]
    have := hmono hxy
    rw [if_neg (by omega)]
  · rw [if_neg (by omega)]
end Go.Proofs.YtnlndcidnomioaaDoor.Pure
