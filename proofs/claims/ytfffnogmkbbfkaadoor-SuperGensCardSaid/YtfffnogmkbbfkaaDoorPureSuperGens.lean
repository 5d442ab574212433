import Derived.Test.YtfffnogmkbbfkaaDoorSuperG
import Derived.Test.YtfffnogmkbbfkaaDoorHx0
import Derived.Test.YtfffnogmkbbfkaaDoorHx9
import Derived.Test.YtfffnogmkbbfkaaDoorHx10
namespace Go.Proofs.YtfffnogmkbbfkaaDoor.Pure
open Go.RowKit Go.Proofs.YtfffnogmkbbfkaaDoor.Fn Go.Proofs.YtfffnogmkbbfkaaDoorW.PrintWords Go.Proofs.YtfffnogmkbbfkaaDoorW.PrintLast Go.Proofs.YtfffnogmkbbfkaaDoor.U Go.Proofs.YtfffnogmkbbfkaaDoor.CrcA Go.Proofs.YtfffnogmkbbfkaaDoor.SupA Go.Proofs.YtfffnogmkbbfkaaDoor.SupB
set_option linter.unusedVariables false
set_option linter.unusedSimpArgs false
theorem gens_true (a b : List Int) (g : Int) (s : ByteArray) (ps : List Int) (g' : Int) (s' : ByteArray) (ps' : List Int) : Ev (fun k => l11_SuperGens.j0 k a b true g s ps g' s' ps') true := by
  apply Ev.succ
  simp only [l11_SuperGens.j0, if_true]
  exact headsT_ev
theorem w1 : wrap64 (1 - 0) = 1 := (w64 (x := 1 - 0) (by omega) (by omega)).trans (by decide)
theorem w0 : wrap64 (1 - 1) = 0 := (w64 (x := 1 - 1) (by omega) (by omega)).trans (by decide)
theorem SuperGens : l11_SuperGens.Pure := by
  intro g s ps g' s' ps' _ _ hp _ _ hp'
  apply Ev.rounds
  have hlen : ps.length < 1152921504606846976 := by have := hp.2.1; omega
  have hlen' : ps'.length < 1152921504606846976 := by have := hp'.2.1; omega
  have hput := put_ev g s ps hlen
  have hput' := put_ev g' s' ps' hlen'
  refine Ev.bind hput (Ev.bind hput' ?_)
  unfold putR
  cases h : okS g s ps with
  | false =>
    simp only [Bool.false_eq_true, if_false, no110]
    exact gens_true _ _ _ _ _ _ _ _
  | true =>
    cases h' : okS g' s' ps' with
    | false =>
      simp only [Bool.false_eq_true, if_false, if_true, no110]
      exact gens_true _ _ _ _ _ _ _ _
    | true =>
      simp only [if_true]
      by_cases he : g = g'
      · rw [beq_iff_eq.2 he]
        exact gens_true _ _ _ _ _ _ _ _
      · rw [beq_eq_false_iff_ne.2 he]
        have c1 := choose_ev _ _ (putV_lt (g := g) (ps := ps) (okS_parts h).2.2.2) (putV_lt (g := g') (ps := ps') (okS_parts h').2.2.2)
        have c2 := choose_ev _ _ (putV_lt (g := g') (ps := ps') (okS_parts h').2.2.2) (putV_lt (g := g) (ps := ps) (okS_parts h).2.2.2)
        rw [get_put h, get_put h'] at c1 c2
        unfold chooseV at c1 c2
        simp only [if_true] at c1 c2
        apply Ev.succ
        simp only [l11_SuperGens.j0, Bool.false_eq_true, if_false]
        by_cases hgt : g' > g
        · rw [if_pos hgt] at c1
          rw [if_neg (by omega)] at c2
          refine Ev.bind c1 ?_
          refine Ev.bind c2 ?_
          simp only [if_pos hgt, if_true]
          refine Ev.bind (sameS_ev g' s' ps' hlen') ?_
          simp only [if_true]
          refine Ev.bind (sameS_ev g' s' ps' hlen') ?_
          simp only [if_true, if_pos w1.symm]
          exact headsT_ev
        · rw [if_neg hgt] at c1
          rw [if_pos (by omega)] at c2
          refine Ev.bind c1 ?_
          refine Ev.bind c2 ?_
          simp only [if_neg hgt, if_true]
          refine Ev.bind (sameS_ev g s ps hlen) ?_
          simp only [if_true]
          refine Ev.bind (sameS_ev g s ps hlen) ?_
          simp only [if_true, if_pos w0.symm]
          exact headsT_ev
end Go.Proofs.YtfffnogmkbbfkaaDoor.Pure
