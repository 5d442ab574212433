import Derived.Test.YtfffnogmkbbfkaaDoorSuperB
import Derived.Test.YtfffnogmkbbfkaaDoorHx0
import Derived.Test.YtfffnogmkbbfkaaDoorHx3
import Derived.Test.YtfffnogmkbbfkaaDoorHx4
import Derived.Test.YtfffnogmkbbfkaaDoorHx8
import Derived.Test.YtfffnogmkbbfkaaDoorHx9
namespace Go.Proofs.YtfffnogmkbbfkaaDoor.SupB
open Go.RowKit Go.Proofs.YtfffnogmkbbfkaaDoor.Fn Go.Proofs.YtfffnogmkbbfkaaDoorW.PrintWords Go.Proofs.YtfffnogmkbbfkaaDoorW.PrintLast Go.Proofs.YtfffnogmkbbfkaaDoor.U Go.Proofs.YtfffnogmkbbfkaaDoor.CrcA Go.Proofs.YtfffnogmkbbfkaaDoor.Pure Go.Proofs.YtfffnogmkbbfkaaDoor.SupA
set_option linter.unusedVariables false
set_option linter.unusedSimpArgs false
theorem Ev.succ {α : Type} {g : Nat → Option α} {r : α} (h : Ev (fun k => g (k + 1)) r) : Ev g r := Ev.step (fun _ => rfl) h
def packsTo (M i : Nat) : List Int := ((List.range' 0 i).filter fun p => M.testBit p).map Int.ofNat
theorem packsTo_succ (M i : Nat) : packsTo M (i + 1) = if M.testBit i = true then packsTo M i ++ [(i : Int)] else packsTo M i := by
  unfold packsTo
  rw [List.range'_1_concat, List.filter_append, List.map_append, Nat.zero_add]
  cases h : M.testBit i with
  | true => rw [if_pos rfl]; simp [List.filter, h]
  | false => rw [if_neg (by decide)]; simp [List.filter, h]
theorem packsTo_len (M i : Nat) : (packsTo M i).length ≤ i := by
  unfold packsTo
  rw [List.length_map]
  exact Nat.le_trans (List.length_filter_le _ _) (by simp)
theorem bit_test (M i : Nat) (hM : M < 18446744073709551616) (hi : i < 62) : (Go.bits .and .u64 (shr .u64 (M : Int) (i : Int)) 1 = 1) ↔ M.testBit i = true := by
  rw [shr_nat .u64 M i _ rfl (by simp [IntKind.bits]; omega)]
  have hd : M / 2 ^ i ≤ M := Nat.div_le_self _ _
  rw [show (1 : Int) = ((1 : Nat) : Int) from rfl, u64_and_nat _ 1 (by omega) (by decide), Nat.and_one_is_mod, Nat.testBit_eq_decide_div_mod_eq, decide_eq_true_eq]
  omega
theorem get_loop (b : List Nat) (G : Int) (K : ByteArray) (M : Nat) (hM : M < 18446744073709551616) (r : Int × ByteArray × List Int × Int)
    (H : Ev (fun k => (super_Put.f k G K (packsAt M)).bind fun bt188 => (if bt188.2 = 0 then (if bt188.1 = ofN b then (some (G, K, packsAt M, (0 : Int))) else (some (0, (⟨#[]⟩ : ByteArray), ([] : List Int), 110))) else (some (0, (⟨#[]⟩ : ByteArray), ([] : List Int), 110)))) r) (d : Nat) :
    ∀ i : Nat, i + d = 62 → Ev (fun k => super_Get.l0 k (ofN b) (M : Int) (i : Int) G K (packsTo M i)) r := by
  induction d with
  | zero =>
    intro i hi
    obtain rfl : i = 62 := by omega
    refine Ev.step (fun k => ?_) H
    simp only [super_Get.l0]
    rw [if_neg (by omega)]
    rfl
  | succ d ih =>
    intro i hi
    have hs := ih (i + 1) (by omega)
    have hl := packsTo_len M i
    rw [packsTo_succ] at hs
    refine Ev.step (fun k => ?_) hs
    simp only [super_Get.l0]
    rw [if_pos (by omega), if_pos (by omega), wi i 62 (by omega) (by omega)]
    by_cases hb : M.testBit i = true
    · rw [if_pos ((bit_test M i hM (by omega)).2 hb), if_pos (by omega), if_pos hb]
    · rw [if_neg (fun h => hb ((bit_test M i hM (by omega)).1 h)), if_neg hb]
theorem le8_lt (l : List Nat) (hb : ∀ x ∈ l, x < 256) : le (l.take 8) < 18446744073709551616 := by
  have := le_lt (l.take 8) (fun x hx => hb x (List.mem_of_mem_take hx))
  refine Nat.lt_of_lt_of_le this (Nat.le_trans (Nat.pow_le_pow_right (by decide) (show 8 * (l.take 8).length ≤ 64 by rw [List.length_take]; omega)) (by decide))
theorem get_ev (b : List Nat) (hb : ∀ x ∈ b, x < 256) : Ev (fun k => super_Get.f k (ofN b)) (getV b) := by
  by_cases hlen : b.length = 256
  · have hG := le8_lt (b.drop 4) (fun x hx => hb x (List.mem_of_mem_drop hx))
    have hM := le8_lt (b.drop 44) (fun x hx => hb x (List.mem_of_mem_drop hx))
    have e1 := read_ev (b.drop 4) (fun x hx => hb x (List.mem_of_mem_drop hx)) (by rw [List.length_drop]; omega)
    have e3 := read_ev (b.drop 44) (fun x hx => hb x (List.mem_of_mem_drop hx)) (by rw [List.length_drop]; omega)
    have hK : ∀ x ∈ ofN (keyB b), 0 ≤ x ∧ x < 256 := by
      intro x hx
      obtain ⟨n, hn, rfl⟩ := List.mem_map.1 hx
      have := hb n (List.mem_of_mem_drop (List.mem_of_mem_take hn))
      simp only [Int.ofNat_eq_natCast]
      omega
    have hKl : (ofN (keyB b)).length = 32 := by rw [ofN_length, keyB, List.length_take, List.length_drop]; omega
    have e2 := from_ev (ofN (keyB b)) hK (by rw [hKl]; decide)
    have hF : fromOf (ofN (keyB b)) = (hexOf (ofN (keyB b)), 0) := by unfold fromOf; rw [if_pos (by rw [hKl]; rfl)]
    rw [hF] at e2
    have hcut : (((ofN b).take ((((4 + 8) : Int) + 32) : Int).toNat).drop (((4 + 8) : Int) : Int).toNat) = ofN (keyB b) := by
      rw [ofN_take, ofN_drop, keyB, List.drop_take]
      rfl
    have hcut2 : (ofN b).drop ((((4 + 8) : Int) + 32) : Int).toNat = ofN (b.drop 44) := ofN_drop b 44
    have hg : wrap64 (Go.bits .and .u64 ((le ((b.drop 4).take 8) : Nat) : Int) 9223372036854775807) = decG b := by
      unfold decG genB
      rw [show (9223372036854775807 : Int) = ((9223372036854775807 : Nat) : Int) from rfl, u64_and_nat _ _ hG (by decide), show (9223372036854775807 : Nat) = 2 ^ 63 - 1 from by decide, Nat.and_two_pow_sub_one_eq_mod, show (2 : Nat) ^ 63 = 9223372036854775808 from by decide, w64 (by omega) (by omega)]
    have hp := put_ev (decG b) (decK b) (decP b) (Nat.lt_of_le_of_lt (packsTo_len (le (mapB b)) 62) (by decide))
    have hlast : Ev (fun k => (super_Put.f k (decG b) (decK b) (packsAt (le ((b.drop 44).take 8)))).bind fun bt188 => (if bt188.2 = 0 then (if bt188.1 = ofN b then (some (decG b, decK b, packsAt (le ((b.drop 44).take 8)), (0 : Int))) else (some (0, (⟨#[]⟩ : ByteArray), ([] : List Int), 110))) else (some (0, (⟨#[]⟩ : ByteArray), ([] : List Int), 110)))) (getV b) := by
      refine Ev.bind hp ?_
      refine Ev.congr (fun k => ?_) (Ev.now _)
      unfold putR getV
      by_cases ho : okS (decG b) (decK b) (decP b) = true
      · rw [if_pos ho, if_pos rfl]
        by_cases hq : putV (decG b) (decK b) (decP b) = b
        · rw [if_pos (by rw [hq]), if_pos ⟨hlen, ho, hq⟩]; rfl
        · rw [if_neg (fun h => hq (ofN_inj h)), if_neg (fun h => hq h.2.2)]
      · rw [if_neg ho, if_neg (by decide), if_neg (fun h => ho h.2.1)]
    have h0 := get_loop b (decG b) (decK b) _ hM _ hlast 62 0 (by omega)
    unfold super_Get.f
    have hl4 : (4 : Int) ≤ ((ofN b).length : Int) := by rw [ofN_length, hlen]; decide
    have hl44 : ((((4 + 8) : Int) + 32) : Int) ≤ ((ofN b).length : Int) := by rw [ofN_length, hlen]; decide
    have hl256 : ((ofN b).length : Int) = 256 := by rw [ofN_length, hlen]; rfl
    simp only [if_pos hl256, if_pos hl4, if_pos hl44, hcut, hcut2, if_pos (show (0 : Int) ≤ 4 + 8 by decide), if_pos (show ((4 : Int) + 8) ≤ (4 + 8) + 32 by decide), if_pos (show (0 : Int) ≤ (4 + 8) + 32 by decide)]
    rw [show (ofN b).drop 4 = ofN (b.drop 4) from ofN_drop b 4]
    refine Ev.bind e1 ?_
    refine Ev.bind e2 ?_
    refine Ev.bind e3 ?_
    rw [hg]
    exact h0
  · refine Ev.congr (fun k => ?_) (Ev.now (getV b))
    unfold super_Get.f getV
    rw [if_neg (by rw [ofN_length]; omega), if_neg (fun h => hlen h.1)]
def chooseV (x y : Int × ByteArray × List Int × Int) : Int × ByteArray × List Int × Int × Int :=
  if x.2.2.2 = 0 then (if y.2.2.2 = 0 then (if y.1 > x.1 then (y.1, y.2.1, y.2.2.1, 1, 0) else (x.1, x.2.1, x.2.2.1, 0, 0)) else (x.1, x.2.1, x.2.2.1, 0, 0)) else (if y.2.2.2 = 0 then (y.1, y.2.1, y.2.2.1, 1, 0) else (0, (⟨#[]⟩ : ByteArray), [], -1, 110))
theorem choose_ev (a b : List Nat) (ha : ∀ x ∈ a, x < 256) (hb : ∀ x ∈ b, x < 256) : Ev (fun k => super_Choose.f k (ofN a) (ofN b)) (chooseV (getV a) (getV b)) := by
  refine Ev.bind (get_ev a ha) (Ev.bind (get_ev b hb) ?_)
  generalize getV a = x
  generalize getV b = y
  unfold chooseV
  by_cases h1 : x.2.2.2 = 0
  · simp only [if_pos h1]
    refine Ev.step (fun k => ?_) (Ev.now _)
    simp only [super_Choose.j0]
    rw [if_neg (by decide), if_pos h1]
    by_cases h2 : y.2.2.2 = 0
    · rw [if_pos h2, if_pos h2]
      by_cases h3 : y.1 > x.1
      · rw [if_pos h3, if_pos h3]
      · rw [if_neg h3, if_neg h3]
    · rw [if_neg h2, if_neg h2]
  · simp only [if_neg h1]
    refine Ev.step (fun k => ?_) (Ev.now _)
    simp only [super_Choose.j0]
    by_cases h2 : y.2.2.2 = 0
    · rw [if_neg (by rw [h2]; decide), if_neg h1, if_pos h2]
    · rw [if_pos (by simpa using h2), if_neg h2]
theorem sameS_ev (g : Int) (s : ByteArray) (ps : List Int) (hl : ps.length < 1152921504606846976) : Ev (fun k => q11_Same.f k g s ps g s ps) true := by
  have hloop : ∀ d i : Nat, i + d = ps.length → Ev (fun k => q11_Same.l0 k (i : Int) g s ps g s ps) true := by
    intro d
    induction d with
    | zero =>
      intro i hi
      obtain rfl : i = ps.length := by omega
      refine Ev.step (f := fun _ => some true) (fun k => ?_) (Ev.now _)
      simp only [q11_Same.l0]
      rw [if_neg (by omega), if_pos trivial, beq_self_eq_true]
    | succ d ih =>
      intro i hi
      refine Ev.step (fun k => ?_) (ih (i + 1) (by omega))
      simp only [q11_Same.l0]
      rw [if_pos (by omega), if_pos (by omega), if_pos (by omega), if_pos trivial, wi i ps.length (by omega) (by omega)]
  refine Ev.congr (fun k => ?_) (hloop ps.length 0 (by omega))
  unfold q11_Same.f
  rw [if_pos rfl]
  rfl
theorem next_ev (g : Int) (s : ByteArray) (ps : List Int) (t : ByteArray) (l : List Int) (hl : ps.length < 1152921504606846976) (h2 : l.length ≤ 1099511627776) :
    Ev (fun k => super_Next.f k g s ps t l) (if okS g s ps = true ∧ g ≠ 4611686018427387903 ∧ okS g t (nextPacks l) = true then (g + 1, t, nextPacks l, 0) else (0, (⟨#[]⟩ : ByteArray), [], 110)) := by
  have hn : (nextPacks l).length ≤ l.length := by
    unfold nextPacks
    refine Nat.le_trans (Lib.compact_length_le _) ?_
    rw [List.length_mergeSort]
    exact Nat.le_refl _
  have e1 := right_ev g s ps hl
  have e2 := right_ev g t (nextPacks l) (by omega)
  unfold super_Next.f
  simp only [if_pos (show l.length * 8 ≤ 140737488351232 by omega)]
  refine Ev.bind e1 ?_
  cases h : okS g s ps with
  | false => simp only [Bool.false_eq_true, if_false, false_and]; exact Ev.now _
  | true =>
    simp only [if_true, true_and]
    by_cases hg : g = 4611686018427387903
    · simp only [if_pos hg, show (g ≠ 4611686018427387903) = False from by simp [hg], false_and, if_false]
      exact Ev.now _
    · simp only [if_neg hg, show (g ≠ 4611686018427387903) = True from by simp [hg], true_and]
      refine Ev.bind e2 ?_
      have hr := okS_parts h
      cases h3 : okS g t (nextPacks l) with
      | false => simp only [Bool.false_eq_true, if_false]; exact Ev.now _
      | true => simp only [if_true]; rw [w64 (by omega) (by omega)]; exact Ev.now _
def sum0V : List Int := [110, 52, 11, 156, 255, 179, 122, 152, 156, 165, 68, 230, 187, 120, 10, 44, 120, 144, 29, 63, 179, 55, 56, 118, 133, 17, 163, 6, 23, 175, 160, 29]
def sum1V : List Int := [75, 245, 18, 47, 52, 69, 84, 197, 59, 222, 46, 187, 140, 210, 183, 227, 209, 96, 10, 214, 49, 195, 133, 165, 215, 204, 226, 60, 119, 133, 69, 154]
set_option maxRecDepth 100000 in
theorem of0 : Ev (fun k => q07_Of.f k 0 []) (hexOf sum0V) := Ev.of (q07_Of.mono _ _) (k := 400) (by decide +kernel)
set_option maxRecDepth 100000 in
theorem of1 : Ev (fun k => q07_Of.f k 1 []) (hexOf sum1V) := Ev.of (q07_Of.mono _ _) (k := 400) (by decide +kernel)
theorem key0 : isKey (hexOf sum0V) = true := isKey_hex _ (by decide) (by decide)
theorem key1 : isKey (hexOf sum1V) = true := isKey_hex _ (by decide) (by decide)
theorem getV_zero : getV (List.replicate 256 0) = (0, (⟨#[]⟩ : ByteArray), [], 110) := by
  rcases get_or (List.replicate 256 0) with ⟨g, s, ps, _, _, h⟩ | h
  · exfalso
    obtain ⟨t, ht⟩ := putV_form g s ps
    rw [ht] at h
    have h0 := congrArg (fun l : List Nat => l[0]?) h
    rw [List.cons_append, List.getElem?_cons_zero, List.getElem?_replicate, if_pos (by decide)] at h0
    exact absurd (Option.some.inj h0) (by decide)
  · exact h
theorem getV_nil : getV [] = (0, (⟨#[]⟩ : ByteArray), [], 110) := by
  unfold getV
  rw [if_neg (fun h => by simp at h)]
theorem heads_ev : Ev (fun k => l11_heads.f k) true := by
  have k0 := key0
  have k1 := key1
  generalize hK0 : hexOf sum0V = K0 at k0
  generalize hK1 : hexOf sum1V = K1 at k1
  have o0 := of0
  have o1 := of1
  rw [hK0] at o0
  rw [hK1] at o1
  have hN : nextPacks [4, 1, 4] = [1, 4] := by simp [nextPacks, List.mergeSort, List.MergeSort.Internal.splitInTwo, List.merge, Lib.compact]; decide
  have ok0 : okS 3 K0 [0, 9] = true := by unfold okS; rw [k0]; decide
  have ok1 : okS 3 K1 [1, 4] = true := by unfold okS; rw [k1]; decide
  have ok2 : okS 4 K1 [1, 4] = true := by unfold okS; rw [k1]; decide
  have n0 := next_ev 3 K0 [0, 9] K1 [4, 1, 4] (by decide) (by decide)
  rw [hN, if_pos ⟨ok0, by decide, ok1⟩] at n0
  have p0 := put_ev 3 K0 [0, 9] (by decide)
  have p1 := put_ev 4 K1 [1, 4] (by decide)
  unfold putR at p0 p1
  rw [if_pos ok0] at p0
  rw [if_pos ok2] at p1
  have lt0 := putV_lt (g := 3) (ps := [0, 9]) k0
  have lt1 := putV_lt (g := 4) (ps := [1, 4]) k1
  have c0 := choose_ev _ _ lt0 lt1
  rw [get_put ok0, get_put ok2] at c0
  have c1 := choose_ev (List.replicate 256 0) [] (fun x hx => by have := List.eq_of_mem_replicate hx; omega) (fun x hx => by simp at hx)
  rw [getV_zero, getV_nil] at c1
  have g0 := get_ev _ lt0
  rw [get_put ok0] at g0
  have sm := sameS_ev 3 K0 [0, 9] (by decide)
  have hl : ((ofN (putV 3 K0 [0, 9])).length : Int) = 256 := by rw [ofN_length, putV_length]; rfl
  have hz : (List.replicate 256 (0 : Int)) = ofN (List.replicate 256 0) := by unfold ofN; rw [List.map_replicate]; rfl
  have hc1 : Ev (fun k => super_Choose.f k (List.replicate 256 0) []) (0, (⟨#[]⟩ : ByteArray), ([] : List Int), (-1 : Int), (110 : Int)) := by rw [hz]; exact c1
  unfold l11_heads.f
  refine Ev.bind o0 ?_
  simp only [Option.bind_some]
  refine Ev.bind o1 ?_
  refine Ev.bind n0 ?_
  refine Ev.bind p0 ?_
  refine Ev.bind p1 ?_
  refine Ev.bind c0 ?_
  simp only [if_pos (show (256 : Nat) ≤ 281474976710656 by decide)]
  refine Ev.bind hc1 ?_
  refine Ev.bind g0 ?_
  refine Ev.congr (fun k => ?_) (Ev.bind (f := fun _ t => some t) sm (Ev.now _))
  rw [if_pos rfl, if_pos rfl, if_pos rfl, if_pos hl]
  rfl
theorem headsT_ev : Ev (fun k => (l11_heads.f k).bind fun t => some t) true := Ev.bind (f := fun _ t => some t) heads_ev (Ev.now _)
end Go.Proofs.YtfffnogmkbbfkaaDoor.SupB
