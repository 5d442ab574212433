import Derived.Test.YtfffnogmkbbfkaaDoorSx
import Derived.Test.YtfffnogmkbbfkaaDoorHx0
import Derived.Test.YtfffnogmkbbfkaaDoorHx9
import Derived.Test.YtfffnogmkbbfkaaDoorHx15
namespace Go.Proofs.YtfffnogmkbbfkaaDoor.Pure
open Go.RowKit Go.Proofs.YtfffnogmkbbfkaaDoor.Fn Go.Proofs.YtfffnogmkbbfkaaDoorW.PrintWords Go.Proofs.YtfffnogmkbbfkaaDoorW.PrintLast Go.Proofs.YtfffnogmkbbfkaaDoor.U Go.Proofs.YtfffnogmkbbfkaaDoor.CrcA Go.Proofs.YtfffnogmkbbfkaaDoor.SupA Go.Proofs.YtfffnogmkbbfkaaDoor.SupB
set_option linter.unusedVariables false
set_option linter.unusedSimpArgs false
theorem chooses_len (a b : List Nat) : (chooseV (getV a) (getV b)).2.2.1.length < 1152921504606846976 := by
  have h : ∀ c : List Nat, (getV c).2.2.1.length < 1152921504606846976 := by
    intro c
    rcases get_or c with ⟨g, s, ps, h1, h2, _⟩ | h1
    · rw [h1]; exact okS_len h2
    · rw [h1]; decide
  have ha := h a
  have hb := h b
  unfold chooseV
  split
  · split
    · split
      · exact hb
      · exact ha
    · exact ha
  · split
    · exact hb
    · decide
theorem chooses_heads (x y : List Int) (t : ByteArray) (l : List Int) (g : Int) (s : ByteArray) (ps : List Int) : Ev (fun k => l11_SuperChooses.j0 k x y t l true g s ps) true := by
  apply Ev.succ
  simp only [l11_SuperChooses.j0, if_true]
  exact headsT_ev
theorem SuperChooses : l11_SuperChooses.Pure := by
  intro l0 l1 g s ps t l h0 h1 _ _ hp _ hl
  apply Ev.rounds
  obtain ⟨a, rfl, ha⟩ := bytes_of h0.2.2
  obtain ⟨b, rfl, hb⟩ := bytes_of h1.2.2
  have hlen : ps.length < 1152921504606846976 := by have := hp.2.1; omega
  unfold l11_SuperChooses.f
  by_cases c0 : ((ofN a).length : Int) > 1000
  · simp only [if_pos c0]
    exact chooses_heads _ _ _ _ _ _ _
  · simp only [if_neg c0]
    by_cases c1 : ((ofN b).length : Int) > 1000
    · simp only [if_pos c1]
      exact chooses_heads _ _ _ _ _ _ _
    · simp only [if_neg c1]
      by_cases c2 : (l.length : Int) > 300
      · rw [decide_eq_true c2]
        exact chooses_heads _ _ _ _ _ _ _
      · rw [decide_eq_false c2]
        apply Ev.succ
        simp only [l11_SuperChooses.j0, Bool.false_eq_true, if_false]
        have hn : (nextPacks l).length ≤ l.length := by
          unfold nextPacks
          refine Nat.le_trans (Lib.compact_length_le _) ?_
          rw [List.length_mergeSort]
          exact Nat.le_refl _
        have e1 := sameS_ev (chooseV (getV a) (getV b)).1 (chooseV (getV a) (getV b)).2.1 (chooseV (getV a) (getV b)).2.2.1 (chooses_len a b)
        have e2 : ∀ V : Int × ByteArray × List Int × Int, V = (if okS g s ps = true ∧ g ≠ 4611686018427387903 ∧ okS g t (nextPacks l) = true then (g + 1, t, nextPacks l, 0) else (0, (⟨#[]⟩ : ByteArray), [], 110)) → Ev (fun k => q11_Same.f k V.1 V.2.1 V.2.2.1 V.1 V.2.1 V.2.2.1) true := by
          intro V hV
          refine sameS_ev _ _ _ ?_
          rw [hV]
          split
          · show (nextPacks l).length < _; omega
          · decide
        refine Ev.bind (choose_ev a b ha hb) ?_
        refine Ev.bind (refChoose_ev a b ha hb) ?_
        refine Ev.bind (next_ev g s ps t l hlen (by omega)) ?_
        refine Ev.bind (refNext_ev g s ps t l hlen (by omega)) ?_
        refine Ev.bind e1 ?_
        simp only [if_true]
        refine Ev.bind (e2 _ rfl) ?_
        simp only [if_true]
        exact headsT_ev
end Go.Proofs.YtfffnogmkbbfkaaDoor.Pure
