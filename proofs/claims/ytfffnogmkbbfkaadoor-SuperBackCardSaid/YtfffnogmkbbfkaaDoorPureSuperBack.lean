import Derived.Test.YtfffnogmkbbfkaaDoorSuperG
import Derived.Test.YtfffnogmkbbfkaaDoorHx0
import Derived.Test.YtfffnogmkbbfkaaDoorHx9
import Derived.Test.YtfffnogmkbbfkaaDoorHx10
namespace Go.Proofs.YtfffnogmkbbfkaaDoor.Pure
open Go.RowKit Go.Proofs.YtfffnogmkbbfkaaDoor.Fn Go.Proofs.YtfffnogmkbbfkaaDoorW.PrintWords Go.Proofs.YtfffnogmkbbfkaaDoorW.PrintLast Go.Proofs.YtfffnogmkbbfkaaDoor.U Go.Proofs.YtfffnogmkbbfkaaDoor.CrcA Go.Proofs.YtfffnogmkbbfkaaDoor.SupA Go.Proofs.YtfffnogmkbbfkaaDoor.SupB
set_option linter.unusedVariables false
set_option linter.unusedSimpArgs false
theorem back_j0 (bs : List Nat) (hb : ∀ x ∈ bs, x < 256) : Ev (fun k => l11_SuperBack.j0 k (ofN bs)) true := by
  have hg := get_ev bs hb
  apply Ev.succ
  simp only [l11_SuperBack.j0]
  rcases get_or bs with ⟨g, s, ps, h1, h2, h3⟩ | h1
  · rw [h1] at hg
    have hp := put_ev g s ps (okS_len h2)
    unfold putR at hp
    rw [if_pos h2, h3] at hp
    have hs : q02_Same.f (ofN bs) (ofN bs) = some true := by unfold q02_Same.f; rw [beq_self_eq_true]
    refine Ev.bind hg ?_
    simp only [if_true]
    refine Ev.bind hp ?_
    simp only [if_true, hs, Option.bind_some]
    exact headsT_ev
  · rw [h1] at hg
    refine Ev.bind hg ?_
    simp only [no110, if_false]
    refine Ev.bind (sameS_ev 0 (⟨#[]⟩ : ByteArray) [] (by decide)) ?_
    simp only [if_true]
    exact headsT_ev
theorem SuperBack : l11_SuperBack.Pure := by
  intro g s ps l _ _ hp hl
  apply Ev.rounds
  obtain ⟨bs, rfl, hb⟩ := bytes_of hl.2.2
  have hj := back_j0 bs hb
  have hlen : ps.length < 1152921504606846976 := by have := hp.2.1; omega
  have hput := put_ev g s ps hlen
  unfold putR at hput
  unfold l11_SuperBack.f
  cases h : okS g s ps with
  | true =>
    rw [h, if_pos rfl] at hput
    have hg := get_ev (putV g s ps) (putV_lt (okS_parts h).2.2.2)
    rw [get_put h] at hg
    have hl : ((ofN (putV g s ps)).length : Int) = 256 := by rw [ofN_length, putV_length]; rfl
    refine Ev.bind hput ?_
    simp only [if_true]
    refine Ev.bind hg ?_
    simp only [if_true]
    refine Ev.bind (sameS_ev g s ps hlen) ?_
    simp only [if_true, hl]
    exact hj
  | false =>
    rw [h, if_neg (by decide)] at hput
    refine Ev.bind hput ?_
    simp only [no110, if_false]
    exact hj
end Go.Proofs.YtfffnogmkbbfkaaDoor.Pure
