/- CrcCuts: a sum may go on from where it was: at every bytes and every place in them. No condition besides the reader's own bound on lengths. -/
import Derived.Test.YtohhpobgmhoeoaaCrcC
import Derived.Test.YtohhpobgmhoeoaaHx0
import Derived.Test.YtohhpobgmhoeoaaHx5
namespace Go.Proofs.Ytohhpobgmhoeoaa.Pure
open Go.RowKit Go.Proofs.Ytohhpobgmhoeoaa.Fn Go.Proofs.YtohhpobgmhoeoaaW.PrintWords Go.Proofs.YtohhpobgmhoeoaaW.PrintLast Go.Proofs.Ytohhpobgmhoeoaa.U Go.Proofs.Ytohhpobgmhoeoaa.CrcA Go.Proofs.Ytohhpobgmhoeoaa.CrcB Go.Proofs.Ytohhpobgmhoeoaa.CrcC

theorem CrcCuts : palimpsestlaw03_CrcCuts.Pure := by
  intro l a _ hl hw _
  obtain ⟨xs, rfl, hx⟩ := bytes_of hw
  rw [ofN_length] at hl
  obtain ⟨K9, h9⟩ := heads_ev
  dsimp only at h9
  by_cases h0 : a < 0
  · refine ⟨K9 + 1, ?_⟩
    unfold palimpsestlaw03_CrcCuts.f
    rw [if_pos h0]
    simp only [palimpsestlaw03_CrcCuts.j0]
    rw [if_pos trivial, h9 _ (by omega)]
    rfl
  by_cases h1 : a > (xs.length : Int)
  · refine ⟨K9 + 1, ?_⟩
    unfold palimpsestlaw03_CrcCuts.f
    rw [if_neg h0, ofN_length]
    simp only [palimpsestlaw03_CrcCuts.j0]
    rw [if_pos (by simpa using h1), h9 _ (by omega)]
    rfl
  obtain ⟨n, rfl⟩ := Int.eq_ofNat_of_zero_le (by omega : 0 ≤ a)
  have hb1 : ∀ x ∈ xs.take n, x < 256 := fun x h => hx x (List.mem_of_mem_take h)
  have hb2 : ∀ x ∈ xs.drop n, x < 256 := fun x h => hx x (List.mem_of_mem_drop h)
  have hF := F_lt (xs.take n) (c := 4294967295) (by decide) hb1
  have hxs : 4294967295 ^^^ F 4294967295 (xs.take n) < 4294967296 := Nat.xor_lt_two_pow (n := 32) (by decide) hF
  obtain ⟨K1, e1⟩ := sum_ev (xs.take n) hb1 (by simp; omega)
  obtain ⟨K2, e2⟩ := more_ev (4294967295 ^^^ F 4294967295 (xs.take n)) (xs.drop n) hxs hb2 (by simp; omega)
  obtain ⟨K3, e3⟩ := sum_ev xs hx (by omega)
  have e : 4294967295 ^^^ (4294967295 ^^^ F 4294967295 (xs.take n)) = F 4294967295 (xs.take n) := by
    rw [← Nat.xor_assoc]; simp
  rw [e, ← F_append, List.take_append_drop] at e2
  dsimp only at e1 e2 e3
  refine ⟨K1 + K2 + K3 + K9 + 1, ?_⟩
  unfold palimpsestlaw03_CrcCuts.f
  rw [if_neg h0, ofN_length]
  simp only [palimpsestlaw03_CrcCuts.j0]
  rw [if_neg (by simpa using h1), if_pos (by omega), if_pos (by rw [ofN_length]; omega), Int.toNat_natCast, ofN_take, ofN_drop, e1 _ (by omega)]
  simp only [Option.bind_some]
  rw [e2 _ (by omega), e3 _ (by omega), h9 _ (by omega)]
  simp
end Go.Proofs.Ytohhpobgmhoeoaa.Pure
