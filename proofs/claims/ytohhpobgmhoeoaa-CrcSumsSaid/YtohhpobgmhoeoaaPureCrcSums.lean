/- CrcSums: at every bytes and every sum the program's sums, bytes with their sum, and the test for them are the document's. No condition besides the reader's own bound on lengths. -/
import Derived.Test.YtohhpobgmhoeoaaCrcC
import Derived.Test.YtohhpobgmhoeoaaHx0
import Derived.Test.YtohhpobgmhoeoaaHx4
namespace Go.Proofs.Ytohhpobgmhoeoaa.Pure
open Go.RowKit Go.Proofs.Ytohhpobgmhoeoaa.Fn Go.Proofs.YtohhpobgmhoeoaaW.PrintWords Go.Proofs.YtohhpobgmhoeoaaW.PrintLast Go.Proofs.Ytohhpobgmhoeoaa.U Go.Proofs.Ytohhpobgmhoeoaa.CrcA Go.Proofs.Ytohhpobgmhoeoaa.CrcB Go.Proofs.Ytohhpobgmhoeoaa.CrcC

theorem CrcSums : palimpsestlaw03_CrcSums.Pure := by
  intro l a _ hl hw hs
  obtain ⟨xs, rfl, hx⟩ := bytes_of hw
  obtain ⟨s, rfl⟩ := Int.eq_ofNat_of_zero_le (u32_range hs).1
  have hs := (u32_range hs).2
  rw [ofN_length] at hl
  obtain ⟨K1, h1⟩ := sum_ev xs hx (by omega)
  obtain ⟨K2, h2⟩ := rsum_ev xs hx (by omega)
  obtain ⟨K3, h3⟩ := more_ev s xs (by omega) hx (by omega)
  obtain ⟨K4, h4⟩ := rmore_ev s xs (by omega) hx (by omega)
  obtain ⟨K5, h5⟩ := bytes_ev xs hx (by omega)
  obtain ⟨K6, h6⟩ := rbytes_ev xs hx (by omega)
  obtain ⟨K7, h7⟩ := right_ev xs hx (by omega)
  obtain ⟨K8, h8⟩ := rright_ev xs hx (by omega)
  obtain ⟨K9, h9⟩ := heads_ev
  dsimp only at h1 h2 h3 h4 h5 h6 h7 h8 h9
  refine ⟨K1 + K2 + K3 + K4 + K5 + K6 + K7 + K8 + K9, ?_⟩
  unfold palimpsestlaw03_CrcSums.f palimpsestref02_Same.f
  rw [h1 _ (by omega), h2 _ (by omega), h3 _ (by omega), h4 _ (by omega), h5 _ (by omega), h6 _ (by omega), h7 _ (by omega), h8 _ (by omega), h9 _ (by omega)]
  simp
end Go.Proofs.Ytohhpobgmhoeoaa.Pure
