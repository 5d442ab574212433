import Derived.Test.YtfffnogmkbbfkaaDoorSuperG
import Derived.Test.YtfffnogmkbbfkaaDoorHx0
import Derived.Test.YtfffnogmkbbfkaaDoorHx10
import Derived.Test.YtfffnogmkbbfkaaDoorHx11
import Derived.Test.YtfffnogmkbbfkaaDoorHx12
import Derived.Test.YtfffnogmkbbfkaaDoorHx13
namespace Go.Proofs.YtfffnogmkbbfkaaDoor.SupB
open Go.RowKit Go.Proofs.YtfffnogmkbbfkaaDoor.Fn Go.Proofs.YtfffnogmkbbfkaaDoorW.PrintWords Go.Proofs.YtfffnogmkbbfkaaDoorW.PrintLast Go.Proofs.YtfffnogmkbbfkaaDoor.U Go.Proofs.YtfffnogmkbbfkaaDoor.CrcA Go.Proofs.YtfffnogmkbbfkaaDoor.Pure Go.Proofs.YtfffnogmkbbfkaaDoor.SupA
set_option linter.unusedVariables false
set_option linter.unusedSimpArgs false
def prevOf (ps : List Int) (i : Nat) : Int := if i = 0 then -1 else ps.getD (i - 1) 0
theorem refSuper_loop (g : Int) (s : ByteArray) (ps : List Int) (hl : ps.length < 1152921504606846976) (d : Nat) : ∀ i : Nat, i + d = ps.length → -1 ≤ prevOf ps i → Ev (fun k => q11_Super.l0 k (i : Int) g s ps) (rises (prevOf ps i) (ps.drop i) && tailB g s) := by
  induction d with
  | zero =>
    intro i hi _
    obtain rfl : i = ps.length := by omega
    rw [List.drop_length]
    unfold tailB rises
    by_cases h1 : 1 ≤ g
    · rw [decide_eq_true h1]
      by_cases h2 : g ≤ 4611686018427387903
      · rw [decide_eq_true h2]
        refine Ev.step (fun k => ?_) (Ev.bind (f := fun _ t => some t) (ref07_Check_ev s) (Ev.now _))
        simp only [q11_Super.l0]
        rw [if_neg (by omega), if_pos h1, if_pos h2]
      · rw [decide_eq_false h2]
        refine Ev.step (f := fun _ => some false) (fun k => ?_) (Ev.now _)
        simp only [q11_Super.l0]
        rw [if_neg (by omega), if_pos h1, if_neg h2]
    · rw [decide_eq_false h1]
      refine Ev.step (f := fun _ => some false) (fun k => ?_) (Ev.now _)
      simp only [q11_Super.l0]
      rw [if_neg (by omega), if_neg h1]
  | succ d ih =>
    intro i hi hpv
    have hlt : i < ps.length := by omega
    have er : rd ps (i : Int) = ps[i] := by unfold rd; rw [Int.toNat_natCast, List.getD_eq_getElem?_getD, List.getElem?_eq_getElem hlt]; rfl
    rw [List.drop_eq_getElem_cons hlt]
    have hnext : prevOf ps (i + 1) = ps[i] := by
      unfold prevOf
      rw [if_neg (by omega), Nat.add_sub_cancel, List.getD_eq_getElem?_getD, List.getElem?_eq_getElem hlt]; rfl
    by_cases h0 : ps[i] < 0
    · have : rises (prevOf ps i) (ps[i] :: ps.drop (i + 1)) = false := by simp only [rises]; rw [decide_eq_false (by omega)]; rfl
      rw [this]
      refine Ev.step (f := fun _ => some false) (fun k => ?_) (Ev.now _)
      simp only [q11_Super.l0]
      rw [if_pos (by omega), if_pos (by omega), er, if_pos h0]
    by_cases h2 : 62 ≤ ps[i]
    · have : rises (prevOf ps i) (ps[i] :: ps.drop (i + 1)) = false := by simp only [rises]; rw [decide_eq_false (show ¬ ps[i] < 62 by omega), Bool.and_false]; rfl
      rw [this]
      refine Ev.step (f := fun _ => some false) (fun k => ?_) (Ev.now _)
      simp only [q11_Super.l0]
      rw [if_pos (by omega), if_pos (by omega), er, if_neg h0, if_pos h2]
    have hih := ih (i + 1) (by omega) (by rw [hnext]; omega)
    rw [hnext] at hih
    by_cases hi0 : i = 0
    · have hp : prevOf ps i = -1 := by unfold prevOf; rw [if_pos hi0]
      have : rises (prevOf ps i) (ps[i] :: ps.drop (i + 1)) = rises ps[i] (ps.drop (i + 1)) := by simp only [rises]; rw [hp, decide_eq_true (show (-1 : Int) < ps[i] by omega), decide_eq_true (show ps[i] < 62 by omega)]; rfl
      rw [this]
      refine Ev.step (fun k => ?_) hih
      simp only [q11_Super.l0]
      rw [if_pos (by omega), if_pos (by omega), er, if_neg h0, if_neg h2, if_neg (by omega), wi i ps.length hlt (by omega)]
    · have hw : wrap64 ((i : Int) - 1) = ((i - 1 : Nat) : Int) := by rw [w64 (by omega) (by omega)]; omega
      have hp : rd ps ((i - 1 : Nat) : Int) = prevOf ps i := by unfold prevOf rd; rw [if_neg hi0, Int.toNat_natCast]
      by_cases h3 : ps[i] ≤ prevOf ps i
      · have : rises (prevOf ps i) (ps[i] :: ps.drop (i + 1)) = false := by simp only [rises]; rw [decide_eq_false (by omega)]; rfl
        rw [this]
        refine Ev.step (f := fun _ => some false) (fun k => ?_) (Ev.now _)
        simp only [q11_Super.l0]
        rw [if_pos (by omega), if_pos (by omega), er, if_neg h0, if_neg h2, if_pos (by omega), hw, if_pos (by omega), if_pos (by omega), hp, if_pos h3]
      · have : rises (prevOf ps i) (ps[i] :: ps.drop (i + 1)) = rises ps[i] (ps.drop (i + 1)) := by simp only [rises]; rw [decide_eq_true (show prevOf ps i < ps[i] by omega), decide_eq_true (show ps[i] < 62 by omega)]; rfl
        rw [this]
        refine Ev.step (fun k => ?_) hih
        simp only [q11_Super.l0]
        rw [if_pos (by omega), if_pos (by omega), er, if_neg h0, if_neg h2, if_pos (by omega), hw, if_pos (by omega), if_pos (by omega), hp, if_neg h3, wi i ps.length hlt (by omega)]
theorem refSuper_ev (g : Int) (s : ByteArray) (ps : List Int) (hl : ps.length < 1152921504606846976) : Ev (fun k => q11_Super.f k g s ps) (okS g s ps) := by
  refine Ev.congr (fun k => ?_) (refSuper_loop g s ps hl ps.length 0 (by omega) (by simp [prevOf]))
  unfold q11_Super.f
  rfl
theorem bytes8_or {M p : Nat} (hp : p < 62) (hM : M < 2 ^ p) : (bytes8 M).set (p / 8) (((bytes8 M).getD (p / 8) 0 + 2 ^ (p % 8)) % 256) = bytes8 (M ||| 2 ^ p) := by
  have hor : M ||| 2 ^ p = M + 2 ^ p := by
    have := Nat.two_pow_add_eq_or_of_lt hM 1
    rw [Nat.mul_one] at this
    rw [Nat.or_comm, ← this, Nat.add_comm]
  have hpq : 2 ^ p = 2 ^ (8 * (p / 8)) * 2 ^ (p % 8) := by rw [← Nat.pow_add]; congr 1; omega
  rw [hor]
  apply List.ext_getElem?
  intro j
  by_cases hj : j < 8
  · rw [bytes8_get _ j hj, List.getElem?_set, bytes8_length]
    by_cases hq : p / 8 = j
    · rw [if_pos hq, if_pos (show p / 8 < 8 by omega), List.getD_eq_getElem?_getD, bytes8_get _ _ (by omega), ← hq]
      congr 1
      rw [hpq, Nat.add_mul_div_left _ _ (Nat.two_pow_pos _)]
      simp
    · rw [if_neg hq, bytes8_get _ j hj]
      congr 1
      rcases Nat.lt_or_gt_of_ne hq with h | h
      · have h1 : 2 ^ p * 2 ≤ 2 ^ (8 * j) := by rw [← Nat.pow_succ]; exact Nat.pow_le_pow_right (by decide) (by omega)
        rw [Nat.div_eq_of_lt (show M < 2 ^ (8 * j) by omega), Nat.div_eq_of_lt (show M + 2 ^ p < 2 ^ (8 * j) by omega)]
      · have h1 : 2 ^ p = 2 ^ (8 * j) * (256 * 2 ^ (p - 8 * j - 8)) := by
          rw [show (256 : Nat) = 2 ^ 8 from rfl, ← Nat.pow_add, ← Nat.pow_add]; congr 1; omega
        rw [h1, Nat.add_mul_div_left _ _ (Nat.two_pow_pos _), Nat.add_mul_mod_self_left]
  · rw [List.getElem?_eq_none (by rw [List.length_set, bytes8_length]; omega), List.getElem?_eq_none (by rw [bytes8_length]; omega)]
theorem shl8 : ∀ r : Fin 8, shl .u8 1 (r.val : Int) = ((2 ^ r.val : Nat) : Int) := by decide
theorem refPut_l2 (x : List Nat) (d : Nat) : ∀ n : Nat, n + d = 200 → x.length = 56 → Ev (fun k => q11_Put.l2 k (ofN (x ++ List.replicate n 0))) (ofN (x ++ List.replicate 200 0), (0 : Int)) := by
  induction d with
  | zero =>
    intro n hn hx
    obtain rfl : n = 200 := by omega
    refine Ev.step (f := fun _ => some (ofN (x ++ List.replicate 200 0), (0 : Int))) (fun k => ?_) (Ev.now _)
    unfold q11_Put.l2
    rw [if_neg (by rw [ofN_length, List.length_append, List.length_replicate, hx]; decide)]
  | succ d ih =>
    intro n hn hx
    refine Ev.step (fun k => ?_) (ih (n + 1) (by omega) hx)
    conv => lhs; unfold q11_Put.l2
    rw [if_pos (by rw [ofN_length, List.length_append, List.length_replicate, hx]; omega), if_pos (by rw [ofN_length, List.length_append, List.length_replicate, hx]; omega)]
    congr 1
    rw [show ([0] : List Int) = ofN [0] from rfl, ← ofN_append, List.append_assoc, List.replicate_succ']
theorem refPut_l1 (g : Int) (s : ByteArray) (ps : List Int) (h : okS g s ps = true) (hl : ps.length < 1152921504606846976) (x6 : List Nat) (hx6 : x6 = [80, 76, 77, 80] ++ (bytes8 g.toNat ++ keyN s)) (d : Nat) : ∀ (i M : Nat), i + d = ps.length → M < 2 ^ 62 → ((M : Int) < 2 ^ ((prevOf ps i).toNat + 1) ∧ 0 ≤ prevOf ps i ∨ M = 0 ∧ i = 0) → M ||| mapOf (ps.drop i) = mapOf ps →
    Ev (fun k => q11_Put.l1 k (ofN x6) (ofN (bytes8 M)) (i : Int) g s ps) (ofN (putV g s ps), (0 : Int)) := by
  have hok := okS_parts h
  have hr := rises_mem ps _ hok.1
  induction d with
  | zero =>
    intro i M hi hM _ hm
    obtain rfl : i = ps.length := by omega
    rw [List.drop_length, mapOf, Nat.or_zero] at hm
    subst hm
    have e1 := CrcC.rbytes_ev (bodyV g s ps) (bodyV_lt hok.2.2.2) (by rw [bodyV_length]; decide)
    have e2 := refPut_l2 (CrcA.bytes (bodyV g s ps)) 200 0 (by omega) (by rw [bytes_length, bodyV_length])
    rw [List.replicate_zero, List.append_nil] at e2
    refine Ev.step (fun k => ?_) (Ev.bind e1 e2)
    conv => lhs; unfold q11_Put.l1
    rw [if_neg (by omega)]
    have hb : ofN x6 ++ ofN (bytes8 (mapOf ps)) = ofN (bodyV g s ps) := by rw [← ofN_append, hx6]; unfold bodyV; simp only [List.append_assoc]
    rw [if_pos (by rw [← List.length_append, hb, ofN_length, bodyV_length]; decide), hb]
  | succ d ih =>
    intro i M hi hM hpv hm
    have hlt : i < ps.length := by omega
    have hp := hr _ (List.getElem_mem hlt)
    have er : rd ps (i : Int) = ps[i] := by unfold rd; rw [Int.toNat_natCast, List.getD_eq_getElem?_getD, List.getElem?_eq_getElem hlt]; rfl
    obtain ⟨p, hpn⟩ : ∃ p : Nat, ps[i] = (p : Int) := ⟨ps[i].toNat, by omega⟩
    have hnext : prevOf ps (i + 1) = ps[i] := by
      unfold prevOf
      rw [if_neg (by omega), Nat.add_sub_cancel, List.getD_eq_getElem?_getD, List.getElem?_eq_getElem hlt]; rfl
    have hMp : M < 2 ^ p := by
      rcases hpv with ⟨h1, h2⟩ | ⟨h1, _⟩
      · have hlt2 : prevOf ps i < ps[i] := by
          by_cases hi0 : i = 0
          · unfold prevOf at h2; rw [if_pos hi0] at h2; omega
          · have := rises_step ps _ hok.1 i hlt hi0
            unfold prevOf; rw [if_neg hi0]; exact this
        have h3 : 2 ^ ((prevOf ps i).toNat + 1) ≤ 2 ^ p := Nat.pow_le_pow_right (by decide) (by omega)
        have h4 : M < 2 ^ ((prevOf ps i).toNat + 1) := by exact_mod_cast h1
        omega
      · have := Nat.two_pow_pos p; omega
    rw [List.drop_eq_getElem_cons hlt, mapOf_snoc, hpn, Int.toNat_natCast] at hm
    have e8 : wrap64 (Int.tdiv (p : Int) 8) = ((p / 8 : Nat) : Int) := by rw [Int.tdiv_eq_ediv_of_nonneg (by omega), w64 (by omega) (by omega)]; omega
    have em : IntKind.u64.wrap (Int.tmod (p : Int) 8) = ((p % 8 : Nat) : Int) := by rw [Int.tmod_eq_emod_of_nonneg (by omega), IntKind.wrap_u64]; omega
    have hs : shl .u8 1 ((p % 8 : Nat) : Int) = ((2 ^ (p % 8) : Nat) : Int) := shl8 ⟨p % 8, by omega⟩
    have h2 : 2 ^ p < 2 ^ 62 := Nat.pow_lt_pow_right (by decide) (by omega)
    refine Ev.step (fun k => ?_) (ih (i + 1) (M ||| 2 ^ p) (by omega) (Nat.or_lt_two_pow hM h2) (.inl ⟨?_, by rw [hnext]; omega⟩) hm)
    · conv => lhs; unfold q11_Put.l1
      rw [if_pos (by omega), if_pos (by omega), er, hpn, e8, em, if_pos (by omega), if_pos (by rw [ofN_length, bytes8_length]; omega), if_pos (by omega), hs, wi i ps.length hlt (by omega), rd_ofN, Int.toNat_natCast, ← bytes8_or (by omega) hMp, ← ofN_set]
      congr 2
    · rw [hnext, hpn, Int.toNat_natCast]
      have : M ||| 2 ^ p < 2 ^ (p + 1) := Nat.or_lt_two_pow (by rw [Nat.pow_succ]; omega) (by rw [Nat.pow_succ]; have := Nat.two_pow_pos p; omega)
      exact_mod_cast this
theorem refPut_l0 (g : Nat) (s : ByteArray) (ps : List Int) (h : okS (g : Int) s ps = true) (hl : ps.length < 1152921504606846976) (d : Nat) : ∀ i : Nat, i + d = 8 → Ev (fun k => q11_Put.l0 k (keyRow s) (ofN ([80, 76, 77, 80] ++ (bytes8 g).take i)) (i : Int) (g : Int) s ps) (ofN (putV g s ps), (0 : Int)) := by
  induction d with
  | zero =>
    intro i hi
    obtain rfl : i = 8 := by omega
    have hk := keyN_of (okS_parts h).2.2.2
    have h1 := refPut_l1 (g : Int) s ps h hl ([80, 76, 77, 80] ++ (bytes8 g ++ keyN s)) rfl ps.length 0 0 (by omega) (by decide) (.inr ⟨rfl, rfl⟩) (by rw [List.drop_zero, Nat.zero_or])
    have hz : ofN (bytes8 0) = List.replicate 8 0 := by decide
    rw [hz] at h1
    refine Ev.step (fun k => ?_) h1
    conv => lhs; unfold q11_Put.l0
    rw [if_neg (by omega), List.take_of_length_le (by rw [bytes8_length]; omega), ← hk, ← ofN_append, List.append_assoc]
    rw [if_pos (by rw [ofN_length, ofN_length, List.length_append, bytes8_length, keyN_length]; decide), if_pos (by decide)]
    rfl
  | succ d ih =>
    intro i hi
    refine Ev.step (fun k => ?_) (ih (i + 1) (by omega))
    have ew : IntKind.u64.wrap (wrap64 (8 * (i : Int))) = ((8 * i : Nat) : Int) := by rw [w8 i (by omega), IntKind.wrap_u64]; omega
    conv => lhs; unfold q11_Put.l0
    rw [if_pos (by omega), ew, if_pos (by omega), if_pos (by rw [ofN_length, List.length_append, List.length_take, bytes8_length]; simp; omega), shr_nat .i64 g (8 * i) _ rfl (by simp [IntKind.bits]; omega), wi i 8 (by omega) (by omega), bytes8_take g i (by omega), ← List.append_assoc, ofN_append]
    congr 1
    simp [ofN]
theorem refPut_ev (g : Int) (s : ByteArray) (ps : List Int) (hl : ps.length < 1152921504606846976) : Ev (fun k => q11_Put.f k g s ps) (putR g s ps) := by
  unfold putR
  have hr := refSuper_ev g s ps hl
  cases h : okS g s ps with
  | true =>
    rw [h] at hr
    rw [if_pos rfl]
    obtain ⟨_, h2, _, h4⟩ := okS_parts h
    obtain ⟨n, rfl⟩ := Int.eq_ofNat_of_zero_le (show 0 ≤ g by omega)
    have hb := ref07_Bytes_ev s
    rw [if_pos h4] at hb
    refine Ev.bind hr ?_
    simp only [if_true]
    refine Ev.bind hb ?_
    have := refPut_l0 n s ps h hl 8 0 rfl
    rw [List.take_zero, List.append_nil] at this
    exact this
  | false =>
    rw [h] at hr
    refine Ev.bind hr ?_
    simp only [Bool.false_eq_true, if_false]
    exact Ev.now _
end Go.Proofs.YtfffnogmkbbfkaaDoor.SupB
