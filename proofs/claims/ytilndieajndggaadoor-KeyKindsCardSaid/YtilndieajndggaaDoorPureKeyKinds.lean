import Derived.Test.YtilndieajndggaaDoorKeyA
import Derived.Test.YtilndieajndggaaDoorHx0
import Derived.Test.YtilndieajndggaaDoorHx6
namespace Go.Proofs.YtilndieajndggaaDoor.Pure
open Go.RowKit Go.Proofs.YtilndieajndggaaDoor.Fn Go.Proofs.YtilndieajndggaaDoorW.PrintWords Go.Proofs.YtilndieajndggaaDoorW.PrintLast Go.Proofs.YtilndieajndggaaDoor.U
theorem keyOf_mod {a b : Int} (l : List Int) (h : a % 256 = b % 256) : keyOf a l = keyOf b l := by unfold keyOf; rw [h]
theorem KeyKinds : l07_KeyKinds.Pure := by
  intro a l ha hl
  apply Ev.rounds
  have hd : Ev (fun k => (l07_heads.f k).bind fun t => some t) true := Ev.bind (f := fun _ t => some t) heads_ev (Ev.now _)
  have hj : Ev (fun k => l07_KeyKinds.j0 k a l true) true := by
    refine Ev.step (fun k => ?_) hd
    simp only [l07_KeyKinds.j0, if_true]
  by_cases h1 : (l.length : Int) > 1000
  · refine Ev.congr (fun k => ?_) hj
    unfold l07_KeyKinds.f
    rw [if_pos h1]
  by_cases h2 : a < 0
  · refine Ev.congr (fun k => ?_) hj
    unfold l07_KeyKinds.f
    rw [if_neg h1, if_pos h2]
  by_cases h3 : a > 255
  · refine Ev.congr (fun k => ?_) hj
    unfold l07_KeyKinds.f
    rw [if_neg h1, if_neg h2, decide_eq_true h3]
  have e1 : wrap64 (a + 256) = a + 256 := w64 (by omega) (by omega)
  have e2 : wrap64 (a - 256) = a - 256 := w64 (by omega) (by omega)
  have k1 := keyOf_ev a l (by omega)
  have k2 := keyOf_ev (a + 256) l (by omega)
  have k3 := keyOf_ev (a - 256) l (by omega)
  rw [keyOf_mod l (show (a + 256) % 256 = a % 256 by omega)] at k2
  rw [keyOf_mod l (show (a - 256) % 256 = a % 256 by omega)] at k3
  have hmain : Ev (fun k => l07_KeyKinds.j0 k a l false) true := by
    apply Ev.succ
    simp only [l07_KeyKinds.j0, Bool.false_eq_true, if_false, e1, e2, Option.bind_some, List.nil_append]
    refine Ev.bind k1 ?_
    refine Ev.bind k2 ?_
    simp only [if_true]
    refine Ev.bind k3 ?_
    simp only [if_true]
    simp only [show ([] : List Int).length + l.length < 140737488355328 from by simp; omega, if_true]
    refine Ev.bind k1 ?_
    simp only [if_true]
    exact hd
  refine Ev.congr (fun k => ?_) hmain
  unfold l07_KeyKinds.f
  rw [if_neg h1, if_neg h2, decide_eq_false h3]
end Go.Proofs.YtilndieajndggaaDoor.Pure
