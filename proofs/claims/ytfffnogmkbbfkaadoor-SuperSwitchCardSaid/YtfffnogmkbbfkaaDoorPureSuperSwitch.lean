import Derived.Test.YtfffnogmkbbfkaaDoorSuperG
import Derived.Test.YtfffnogmkbbfkaaDoorHx0
import Derived.Test.YtfffnogmkbbfkaaDoorHx9
import Derived.Test.YtfffnogmkbbfkaaDoorHx14
namespace Go.Proofs.YtfffnogmkbbfkaaDoor.Pure
open Go.RowKit Go.Proofs.YtfffnogmkbbfkaaDoor.Fn Go.Proofs.YtfffnogmkbbfkaaDoorW.PrintWords Go.Proofs.YtfffnogmkbbfkaaDoorW.PrintLast Go.Proofs.YtfffnogmkbbfkaaDoor.U Go.Proofs.YtfffnogmkbbfkaaDoor.CrcA Go.Proofs.YtfffnogmkbbfkaaDoor.SupA Go.Proofs.YtfffnogmkbbfkaaDoor.SupB
set_option linter.unusedVariables false
set_option linter.unusedSimpArgs false
theorem switch_true (x : Int) (a b : List Int) (e : Int) (g : Int) (s : ByteArray) (ps : List Int) (g' : Int) (s' : ByteArray) (ps' : List Int) : Ev (fun k => l11_SuperSwitch.j0 k x a b e true g s ps g' s' ps') true := by
  apply Ev.succ
  simp only [l11_SuperSwitch.j0, if_true]
  exact headsT_ev
theorem bit_place (x : Int) (h0 : -9223372036854775808 ≤ x) (h1 : x < 9223372036854775808) : ∃ n : Nat, n < 2048 ∧ wrap64 (Int.tmod (IntKind.u64.wrap x) 2048) = (n : Int) := by
  refine ⟨((IntKind.u64.wrap x) % 2048).toNat, by omega, ?_⟩
  rw [IntKind.wrap_u64, Int.tmod_eq_emod_of_nonneg (by omega), w64 (by omega) (by omega)]
  omega
theorem bit_xor : ∀ (y : Fin 256) (r : Fin 8), Go.bits .xor .u8 (y.val : Int) (shl .u8 1 (r.val : Int)) = ((y.val ^^^ 2 ^ r.val : Nat) : Int) := by decide +kernel
theorem SuperSwitch : l11_SuperSwitch.Pure := by
  intro g s ps t l x hg hs hp ht hl hx
  apply Ev.rounds
  unfold l11_SuperSwitch.f
  by_cases h300 : (l.length : Int) > 300
  · simp only [if_pos h300]
    exact headsT_ev
  simp only [if_neg h300]
  have hlen : ps.length < 1152921504606846976 := by have := hp.2.1; omega
  have hn := next_ev g s ps t l hlen (by omega)
  have hput := put_ev g s ps hlen
  by_cases hok : okS g s ps = true ∧ g ≠ 4611686018427387903 ∧ okS g t (nextPacks l) = true
  · obtain ⟨h1, h2, h3⟩ := hok
    have h4 : okS (g + 1) t (nextPacks l) = true := by
      obtain ⟨q1, q2, q3, q4⟩ := okS_parts h3
      unfold okS
      rw [q1, q4, decide_eq_true (show 1 ≤ g + 1 by omega), decide_eq_true (show g + 1 ≤ 4611686018427387903 by omega)]
      rfl
    rw [if_pos ⟨h1, h2, h3⟩] at hn
    have hlen' := okS_len h4
    have hput' := put_ev (g + 1) t (nextPacks l) hlen'
    unfold putR at hput hput'
    rw [if_pos h1] at hput
    rw [if_pos h4] at hput'
    have l1 := putV_lt (g := g) (ps := ps) (okS_parts h1).2.2.2
    have l2 := putV_lt (g := g + 1) (ps := nextPacks l) (okS_parts h4).2.2.2
    have c1 := choose_ev _ _ l1 l2
    have c2 := choose_ev _ _ l2 l1
    rw [get_put h1, get_put h4] at c1 c2
    unfold chooseV at c1 c2
    simp only [if_true] at c1 c2
    rw [if_pos (by omega)] at c1
    rw [if_neg (by omega)] at c2
    have hz : ((ofN (putV (g + 1) t (nextPacks l))).length : Int) = 256 := by rw [ofN_length, putV_length]; rfl
    have hw : wrap64 (g + 1) = g + 1 := by obtain ⟨_, q2, q3, _⟩ := okS_parts h1; rw [w64 (by omega) (by omega)]
    have hbne : ((g + 1 : Int) != wrap64 (g + 1)) = false := by rw [hw]; simp
    refine Ev.bind hn ?_
    refine Ev.bind hput ?_
    refine Ev.bind hput' ?_
    simp only [if_true, show ((0 : Int) != 0) = false from by decide]
    apply Ev.succ
    simp only [l11_SuperSwitch.j0, Bool.false_eq_true, if_false]
    refine Ev.bind c1 ?_
    refine Ev.bind c2 ?_
    simp only [if_true, hz]
    refine Ev.bind (sameS_ev (g + 1) t (nextPacks l) hlen') ?_
    simp only [if_true]
    refine Ev.bind (sameS_ev (g + 1) t (nextPacks l) hlen') ?_
    simp only [if_true, hbne]
    obtain ⟨n, hn2, hn⟩ := bit_place x (i64_range hx).1 (i64_range hx).2
    have e8 : wrap64 (Int.tdiv (n : Int) 8) = ((n / 8 : Nat) : Int) := by rw [Int.tdiv_eq_ediv_of_nonneg (by omega), w64 (by omega) (by omega)]; omega
    have er : IntKind.u64.wrap (Int.tmod (n : Int) 8) = ((n % 8 : Nat) : Int) := by rw [Int.tmod_eq_emod_of_nonneg (by omega), IntKind.wrap_u64]; omega
    have hy : (putV (g + 1) t (nextPacks l)).getD (n / 8) 0 < 256 := by
      rw [List.getD_eq_getElem?_getD, List.getElem?_eq_getElem (by rw [putV_length]; omega)]
      exact l2 _ (List.getElem_mem _)
    have hxor := bit_xor ⟨(putV (g + 1) t (nextPacks l)).getD (n / 8) 0, hy⟩ ⟨n % 8, by omega⟩
    dsimp only at hxor
    have hm : 2 ^ (n % 8) < 256 := Nat.lt_of_lt_of_eq (Nat.pow_lt_pow_right (m := n % 8) (n := 8) (by decide) (by omega)) (by decide)
    have hm0 : 2 ^ (n % 8) ≠ 0 := by have := Nat.two_pow_pos (n % 8); omega
    have c3 := choose_ev (putV g s ps) ((putV (g + 1) t (nextPacks l)).set (n / 8) ((putV (g + 1) t (nextPacks l)).getD (n / 8) 0 ^^^ 2 ^ (n % 8))) l1 (by
      intro z hz
      rcases List.mem_or_eq_of_mem_set hz with hz | rfl
      · exact l2 z hz
      · exact Nat.xor_lt_two_pow (n := 8) hy hm)
    rw [get_put h1, get_turned h4 (by omega) hm hm0] at c3
    unfold chooseV at c3
    simp only [if_true, no110, if_false] at c3
    apply Ev.succ
    simp only [l11_SuperSwitch.j1, Bool.false_eq_true, if_false, hn, e8, er, rd_ofN, Int.toNat_natCast, hxor, ofN_set]
    simp only [if_pos (show (0 : Int) ≤ ((n / 8 : Nat) : Int) by omega), if_pos (show (0 : Int) ≤ ((n % 8 : Nat) : Int) by omega), if_pos (show ((n / 8 : Nat) : Int) < ((ofN (putV (g + 1) t (nextPacks l))).length : Int) by rw [hz]; omega)]
    refine Ev.bind c3 ?_
    simp only [if_true]
    refine Ev.bind (sameS_ev g s ps hlen) ?_
    simp only [if_true]
    exact headsT_ev
  · rw [if_neg hok] at hn
    have hput0 := put_ev 0 (⟨#[]⟩ : ByteArray) [] (by decide)
    refine Ev.bind hn (Ev.bind hput (Ev.bind hput0 ?_))
    simp only [no110, if_false]
    exact switch_true _ _ _ _ _ _ _ _ _ _
end Go.Proofs.YtfffnogmkbbfkaaDoor.Pure
