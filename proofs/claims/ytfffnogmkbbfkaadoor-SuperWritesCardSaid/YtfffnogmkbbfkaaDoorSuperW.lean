import Derived.Test.YtfffnogmkbbfkaaDoorSuperC
import Derived.Test.YtfffnogmkbbfkaaDoorHx0
import Derived.Test.YtfffnogmkbbfkaaDoorHx10
import Derived.Test.YtfffnogmkbbfkaaDoorHx11
import Derived.Test.YtfffnogmkbbfkaaDoorHx12
import Derived.Test.YtfffnogmkbbfkaaDoorHx13
namespace Go.Proofs.YtfffnogmkbbfkaaDoor.SupB
open Go.RowKit Go.Proofs.YtfffnogmkbbfkaaDoor.Fn Go.Proofs.YtfffnogmkbbfkaaDoorW.PrintWords Go.Proofs.YtfffnogmkbbfkaaDoorW.PrintLast Go.Proofs.YtfffnogmkbbfkaaDoor.U Go.Proofs.YtfffnogmkbbfkaaDoor.CrcA Go.Proofs.YtfffnogmkbbfkaaDoor.Pure Go.Proofs.YtfffnogmkbbfkaaDoor.SupA
set_option linter.unusedVariables false
set_option linter.unusedSimpArgs false
theorem refSame_bytes (a b : List Nat) (ha : ∀ x ∈ a, x < 256) (hb : ∀ x ∈ b, x < 256) : q02_Same.f (ofN a) (ofN b) = some (a == b) := by
  unfold q02_Same.f
  rw [str_eq ha hb]
theorem w44 : wrap64 (12 + 32) = 44 := (w64 (x := 12 + 32) (by omega) (by omega)).trans (by decide)
theorem map_byte {b : List Nat} (hb : ∀ x ∈ b, x < 256) (hlen : b.length = 256) (i : Nat) (hi : i < 62) : b.getD (44 + i / 8) 0 / 2 ^ (i % 8) % 2 = le (mapB b) / 2 ^ i % 2 := by
  have hl : (mapB b).length = 8 := by rw [mapB, List.length_take, List.length_drop]; omega
  have hx : ∀ x ∈ mapB b, x < 256 := fun x hx => hb x (List.mem_of_mem_drop (List.mem_of_mem_take hx))
  have e := bytes8_le hl hx
  have g := bytes8_get (le (mapB b)) (i / 8) (by omega)
  rw [e, mapB, List.getElem?_take_of_lt (by omega), List.getElem?_drop] at g
  rw [List.getD_eq_getElem?_getD, g, Option.getD_some]
  change le (mapB b) / 2 ^ (8 * (i / 8)) % 256 / 2 ^ (i % 8) % 2 = _
  have h8 : (256 : Nat) = 2 ^ (i % 8) * 2 ^ (8 - i % 8) := by rw [← Nat.pow_add, show i % 8 + (8 - i % 8) = 8 from by omega]
  rw [h8, Nat.mod_mul_right_div_self, Nat.div_div_eq_div_mul, ← Nat.pow_add, show 8 * (i / 8) + i % 8 = i from by omega]
  obtain ⟨m, hm⟩ : ∃ m, 8 - i % 8 = m + 1 := ⟨7 - i % 8, by omega⟩
  rw [hm, Nat.pow_succ, Nat.mul_comm (2 ^ m) 2, Nat.mod_mul_right_mod]
theorem refGet_l1 (b : List Nat) (hb : ∀ x ∈ b, x < 256) (hlen : b.length = 256) (G : Int) (K : ByteArray) (r : Int × ByteArray × List Int × Int)
    (H : Ev (fun k => (q11_Put.f k G K (packsAt (le (mapB b)))).bind fun bt515 => (if bt515.2 = 0 then ((q02_Same.f bt515.1 (ofN b)).bind fun t519 => (if t519 = true then (some (G, K, packsAt (le (mapB b)), 0)) else (some (0, (⟨#[]⟩ : ByteArray), ([] : List Int), 110)))) else (some (0, (⟨#[]⟩ : ByteArray), ([] : List Int), 110)))) r) (d : Nat) :
    ∀ i : Nat, i + d = 62 → Ev (fun k => q11_Get.l1 k (ofN b) 12 (i : Int) G K (packsTo (le (mapB b)) i)) r := by
  induction d with
  | zero =>
    intro i hi
    obtain rfl : i = 62 := by omega
    refine Ev.step (fun k => ?_) H
    simp only [q11_Get.l1]
    rw [if_neg (by omega)]
    rfl
  | succ d ih =>
    intro i hi
    have hs := ih (i + 1) (by omega)
    have hl := packsTo_len (le (mapB b)) i
    have hq := map_byte hb hlen i (by omega)
    rw [packsTo_succ] at hs
    have e1 : Int.tdiv (i : Int) 8 = ((i / 8 : Nat) : Int) := by rw [Int.tdiv_eq_ediv_of_nonneg (by omega)]; omega
    have e2 : Int.tmod (i : Int) 8 = ((i % 8 : Nat) : Int) := by rw [Int.tmod_eq_emod_of_nonneg (by omega)]; omega
    have e3 : wrap64 (wrap64 (12 + 32) + wrap64 (Int.tdiv (i : Int) 8)) = ((44 + i / 8 : Nat) : Int) := by
      rw [e1, w44, w64 (x := ((i / 8 : Nat) : Int)) (by omega) (by omega), w64 (by omega) (by omega)]; omega
    have e4 : IntKind.u64.wrap (Int.tmod (i : Int) 8) = ((i % 8 : Nat) : Int) := by rw [e2, IntKind.wrap_u64]; omega
    have hbit : (Int.tmod (shr .u8 (rd (ofN b) (((44 + i / 8 : Nat)) : Int)) ((i % 8 : Nat) : Int)) 2 = 1) ↔ (le (mapB b)).testBit i = true := by
      rw [rd_ofN, Int.toNat_natCast, shr_nat .u8 _ (i % 8) _ rfl (by simp [IntKind.bits]; omega), Nat.testBit_eq_decide_div_mod_eq, decide_eq_true_eq, ← hq]
      generalize b.getD (44 + i / 8) 0 / 2 ^ (i % 8) = q
      clear hq hs ih
      rw [Int.tmod_eq_emod_of_nonneg (by omega)]
      omega
    refine Ev.step (fun k => ?_) hs
    clear hs ih hq
    simp only [q11_Get.l1, e3, e4]
    rw [if_pos (show (i : Int) < 62 by omega), if_pos (show (0 : Int) ≤ ((44 + i / 8 : Nat) : Int) by omega), if_pos (show ((44 + i / 8 : Nat) : Int) < ((ofN b).length : Int) by rw [ofN_length]; omega), if_pos (show (0 : Int) ≤ ((i % 8 : Nat) : Int) by omega), wi i 62 (by omega) (by omega)]
    by_cases hc : (le (mapB b)).testBit i = true
    · rw [if_pos (hbit.2 hc), if_pos (show (packsTo (le (mapB b)) i).length < 17592186044416 by omega), if_pos hc]
    · rw [if_neg (fun h => hc (hbit.1 h)), if_neg hc]
theorem refGet_ev (b : List Nat) (hb : ∀ x ∈ b, x < 256) : Ev (fun k => q11_Get.f k (ofN b)) (getV b) := by
  by_cases hlen : b.length = 256
  · have hgl : (genB b).length = 8 := by rw [genB, List.length_take, List.length_drop]; omega
    have hgx : ∀ x ∈ genB b, x < 256 := fun x hx => hb x (List.mem_of_mem_drop (List.mem_of_mem_take hx))
    have hG : le (genB b) < 18446744073709551616 := le8_lt (b.drop 4) (fun x hx => hb x (List.mem_of_mem_drop hx))
    have hK : ∀ x ∈ ofN (keyB b), 0 ≤ x ∧ x < 256 := by
      intro x hx
      obtain ⟨n, hn, rfl⟩ := List.mem_map.1 hx
      have := hb n (List.mem_of_mem_drop (List.mem_of_mem_take hn))
      simp only [Int.ofNat_eq_natCast]
      omega
    have hKl : (ofN (keyB b)).length = 32 := by rw [ofN_length, keyB, List.length_take, List.length_drop]; omega
    have e2 := refFrom_ev (ofN (keyB b)) hK (by rw [hKl]; decide)
    have hF : fromOf (ofN (keyB b)) = (hexOf (ofN (keyB b)), 0) := by unfold fromOf; rw [if_pos (by rw [hKl]; rfl)]
    rw [hF] at e2
    have hcut : (((ofN b).take ((44 : Int) : Int).toNat).drop 12) = ofN (keyB b) := by
      rw [ofN_take, ofN_drop, keyB, List.drop_take]
      rfl
    have hp := refPut_ev (decG b) (decK b) (decP b) (Nat.lt_of_le_of_lt (packsTo_len (le (mapB b)) 62) (by decide))
    have hlast : Ev (fun k => (q11_Put.f k (decG b) (decK b) (packsAt (le (mapB b)))).bind fun bt515 => (if bt515.2 = 0 then ((q02_Same.f bt515.1 (ofN b)).bind fun t519 => (if t519 = true then (some (decG b, decK b, packsAt (le (mapB b)), 0)) else (some (0, (⟨#[]⟩ : ByteArray), ([] : List Int), 110)))) else (some (0, (⟨#[]⟩ : ByteArray), ([] : List Int), 110)))) (getV b) := by
      refine Ev.bind hp ?_
      refine Ev.congr (fun k => ?_) (Ev.now _)
      unfold putR getV
      by_cases ho : okS (decG b) (decK b) (decP b) = true
      · rw [if_pos ho, if_pos rfl, refSame_bytes _ _ (putV_lt (okS_parts ho).2.2.2) hb, Option.bind_some]
        by_cases hq : putV (decG b) (decK b) (decP b) = b
        · rw [if_pos (by simp [hq]), if_pos ⟨hlen, ho, hq⟩]; rfl
        · rw [if_neg (by simp [hq]), if_neg (fun h => hq h.2.2)]
      · rw [if_neg ho, if_neg (by decide), if_neg (fun h => ho h.2.1)]
    have h1 := refGet_l1 b hb hlen (decG b) (decK b) _ hlast 62 0 (by omega)
    have h0 : ∀ j : Nat, j ≤ 8 → Ev (fun k => q11_Get.l0 k (ofN b) ((le ((genB b).drop j) : Nat) : Int) ((j : Int) - 1)) (getV b) := by
      intro j
      induction j with
      | zero =>
        intro _
        rw [List.drop_zero]
        by_cases hgt : 4611686018427387903 < le (genB b)
        · rw [get_great hgt hG]
          refine Ev.step (f := fun _ => some (0, (⟨#[]⟩ : ByteArray), [], 110)) (fun k => ?_) (Ev.now _)
          simp only [q11_Get.l0]
          rw [if_neg (by omega), if_pos (by omega)]
        · have hg : wrap64 ((le (genB b) : Nat) : Int) = decG b := by unfold decG; rw [w64 (by omega) (by omega)]; omega
          have h2 : Ev (fun k => (q07_From.f k (ofN (keyB b))).bind fun t => q11_Get.l1 k (ofN b) 12 0 (decG b) t.1 ([] : List Int)) (getV b) := Ev.bind e2 h1
          refine Ev.step (fun k => ?_) h2
          simp only [q11_Get.l0]
          rw [if_neg (by omega), if_neg (by omega), if_pos (by decide), if_pos (by rw [ofN_length, hlen]; decide), hcut, hg]
      | succ j ih =>
        intro hj
        have hd : (genB b).drop j = (genB b)[j]'(by omega) :: (genB b).drop (j + 1) := List.drop_eq_getElem_cons (by omega)
        have hlt := le_lt ((genB b).drop (j + 1)) (fun x hx => hgx x (List.mem_of_mem_drop hx))
        have hlt2 : le ((genB b).drop (j + 1)) < 2 ^ 56 := Nat.lt_of_lt_of_le hlt (Nat.pow_le_pow_right (by decide) (by rw [List.length_drop]; omega))
        have hbyte : b.getD (4 + j) 0 = (genB b)[j]'(by omega) := by
          rw [List.getD_eq_getElem?_getD]
          have : (genB b)[j]? = b[4 + j]? := by rw [genB, List.getElem?_take_of_lt (by omega), List.getElem?_drop]
          rw [← this, List.getElem?_eq_getElem (by omega), Option.getD_some]
        have hbl := hgx _ (List.getElem_mem (l := genB b) (n := j) (by omega))
        have hih := ih (by omega)
        rw [hd, le_cons hbl] at hih
        refine Ev.step (fun k => ?_) hih
        simp only [q11_Get.l0]
        have e : wrap64 (4 + (((j + 1 : Nat) : Int) - 1)) = ((4 + j : Nat) : Int) := by rw [w64 (by omega) (by omega)]; omega
        rw [if_pos (by omega), e, if_pos (by omega), if_pos (by rw [ofN_length]; omega), rd_ofN, Int.toNat_natCast, hbyte]
        congr 1
        · simp only [IntKind.wrap_u64]
          omega
        · rw [w64 (by omega) (by omega)]; omega
    have h2 := h0 8 (Nat.le_refl _)
    rw [List.drop_of_length_le (by omega)] at h2
    refine Ev.congr (fun k => ?_) h2
    unfold q11_Get.f
    rw [if_pos (by rw [ofN_length, hlen]; rfl)]
    rfl
  · refine Ev.congr (fun k => ?_) (Ev.now (getV b))
    unfold q11_Get.f getV
    rw [if_neg (by rw [ofN_length]; omega), if_neg (fun h => hlen h.1)]
end Go.Proofs.YtfffnogmkbbfkaaDoor.SupB
