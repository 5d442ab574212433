import Derived.Test.YtfffnogmkbbfkaaDoorSuperW
import Derived.Test.YtfffnogmkbbfkaaDoorHx0
import Derived.Test.YtfffnogmkbbfkaaDoorHx9
import Derived.Test.YtfffnogmkbbfkaaDoorHx10
import Derived.Test.YtfffnogmkbbfkaaDoorHx13
namespace Go.Proofs.YtfffnogmkbbfkaaDoor.Pure
open Go.RowKit Go.Proofs.YtfffnogmkbbfkaaDoor.Fn Go.Proofs.YtfffnogmkbbfkaaDoorW.PrintWords Go.Proofs.YtfffnogmkbbfkaaDoorW.PrintLast Go.Proofs.YtfffnogmkbbfkaaDoor.U Go.Proofs.YtfffnogmkbbfkaaDoor.CrcA Go.Proofs.YtfffnogmkbbfkaaDoor.SupA Go.Proofs.YtfffnogmkbbfkaaDoor.SupB
set_option linter.unusedVariables false
set_option linter.unusedSimpArgs false
theorem SuperWrites : l11_SuperWrites.Pure := by
  intro g s ps l _ _ hp hl
  apply Ev.rounds
  obtain ⟨bs, rfl, hb⟩ := bytes_of hl.2.2
  have hlen : ps.length < 1152921504606846976 := by have := hp.2.1; omega
  unfold l11_SuperWrites.f
  by_cases hlong : ((ofN bs).length : Int) > 1000
  · simp only [if_pos hlong]
    exact headsT_ev
  · simp only [if_neg hlong]
    refine Ev.bind (put_ev g s ps hlen) ?_
    refine Ev.bind (refPut_ev g s ps hlen) ?_
    refine Ev.bind (get_ev bs hb) ?_
    refine Ev.bind (refGet_ev bs hb) ?_
    have hs : q02_Same.f (putR g s ps).1 (putR g s ps).1 = some true := by unfold q02_Same.f; rw [beq_self_eq_true]
    simp only [hs, Option.bind_some, if_true]
    have hsame : Ev (fun k => q11_Same.f k (getV bs).1 (getV bs).2.1 (getV bs).2.2.1 (getV bs).1 (getV bs).2.1 (getV bs).2.2.1) true := by
      rcases get_or bs with ⟨g, s, ps, h1, h2, _⟩ | h1
      · rw [h1]; exact sameS_ev g s ps (okS_len h2)
      · rw [h1]; exact sameS_ev _ _ _ (by decide)
    refine Ev.bind hsame ?_
    simp only [if_true]
    exact headsT_ev
end Go.Proofs.YtfffnogmkbbfkaaDoor.Pure
