import Derived.Test.YtilndieajndggaaDoorKeyB
import Derived.Test.YtilndieajndggaaDoorHx0
import Derived.Test.YtilndieajndggaaDoorHx5
import Derived.Test.YtilndieajndggaaDoorHx6
import Derived.Test.YtilndieajndggaaDoorHx10
import Derived.Test.YtilndieajndggaaDoorHx11
namespace Go.Proofs.YtilndieajndggaaDoor.Pure
open Go.RowKit Go.Proofs.YtilndieajndggaaDoor.Fn Go.Proofs.YtilndieajndggaaDoorW.PrintWords Go.Proofs.YtilndieajndggaaDoorW.PrintLast Go.Proofs.YtilndieajndggaaDoor.U
set_option linter.unusedVariables false
set_option linter.unusedSimpArgs false
theorem KeyBack : l07_KeyBack.Pure := by
  intro a l ha hl
  apply Ev.rounds
  have hd : Ev (fun k => (l07_heads.f k).bind fun t => some t) true := Ev.bind (f := fun _ t => some t) heads_ev (Ev.now _)
  by_cases h1 : (l.length : Int) > 3000
  · refine Ev.congr (fun k => ?_) hd
    unfold l07_KeyBack.f
    rw [if_pos h1]
  have hb : ∀ x ∈ (a % 256 :: l), 0 ≤ x ∧ x < 256 := by
    intro x hx
    rcases List.mem_cons.1 hx with rfl | hx
    · omega
    · exact u8_range (hl.2.2 x hx)
  have k1 := keyOf_ev a l (by omega)
  have hS := refSum_ev (a % 256 :: l) (bytes_Ws hb) (by simp; omega) (check_two _ l (by omega))
  have hR := sumOf_range (a % 256 :: l)
  have hL := sumOf_length (a % 256 :: l)
  unfold keyOf at k1
  generalize sumOf (a % 256 :: l) = s at k1 hS hR hL
  have hB := keyBytes_hex s hR hL
  have hF : Ev (fun k => key_From.f k s) (hexOf s, 0) := by
    refine Ev.congr (f := fun k => (key_text.f k s).bind fun t174 => some (t174, (0 : Int))) (fun k => ?_) (Ev.bind (f := fun _ t => some (t, (0 : Int))) (text_ev s (by rw [hL]; decide) hR) (Ev.now _))
    unfold key_From.f
    rw [if_pos (by rw [hL]; rfl)]
  have hC : key_Check.f (hexOf s) = some true := by unfold key_Check.f; rw [hB]; rfl
  have hlen : [a % 256].length + l.length < 140737488355328 := by simp; omega
  have hsame : q02_Same.f s s = some true := by unfold q02_Same.f; rw [beq_self_eq_true]
  unfold l07_KeyBack.f
  simp only [if_neg h1]
  refine Ev.bind k1 ?_
  simp only [hB, Option.bind_some]
  refine Ev.bind hF ?_
  simp only [if_true, hC, Option.bind_some, hlen, List.singleton_append]
  refine Ev.bind hS ?_
  simp only [hsame, Option.bind_some, if_true]
  exact hd
end Go.Proofs.YtilndieajndggaaDoor.Pure
