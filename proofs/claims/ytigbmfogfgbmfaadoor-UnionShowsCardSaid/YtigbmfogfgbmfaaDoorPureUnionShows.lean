import Derived.Test.YtigbmfogfgbmfaaDoorUnC
import Derived.Test.YtigbmfogfgbmfaaDoorHx0
import Derived.Test.YtigbmfogfgbmfaaDoorHx10
namespace Go.Proofs.YtigbmfogfgbmfaaDoor.Pure
open Go.RowKit Go.Proofs.YtigbmfogfgbmfaaDoor.Fn Go.Proofs.YtigbmfogfgbmfaaDoorW.PrintWords Go.Proofs.YtigbmfogfgbmfaaDoorW.PrintLast Go.Proofs.YtigbmfogfgbmfaaDoor.U
set_option linter.unusedVariables false
set_option linter.unusedSimpArgs false
theorem shows_great (l0 : List ByteArray) (l1 : List Int) (o : Bool) (l2 : List ByteArray) (l3 : List Int) : Ev (fun k => l21_UnionShows.j0 k l0 l1 true o l2 l3) true :=
  Ev.step (fun k => by simp only [l21_UnionShows.j0]; rw [if_pos (by trivial)]) heads_bind
theorem UnionShows : l21_UnionShows.Pure := by
  intro l0 l1 o l2 l3 h0 h1 h2 h3
  have b1 := h1.2.1
  have b3 := h3.2.1
  refine Ev.rounds (g := fun k => l21_UnionShows.f k l0 l1 o l2 l3) ?_
  unfold l21_UnionShows.f
  by_cases c0 : (l0.length : Int) > 400
  · simp only [if_pos c0]; exact shows_great l0 l1 o l2 l3
  simp only [if_neg c0]
  by_cases c2 : (l2.length : Int) > 400
  · rw [decide_eq_true c2]; exact shows_great l0 l1 o l2 l3
  rw [decide_eq_false c2]
  have hl := mergeV_length l0 l1 o l2 l3 (by omega) (by omega)
  refine Ev.step (fun k => by simp only [l21_UnionShows.j0]; rw [if_neg (by decide)]) ?_
  refine Ev.bind (merge_ev l0 l1 o l2 l3 (by omega) (by omega)) (Ev.bind (refmerge_ev l0 l1 o l2 l3 (by omega) (by omega) (by omega) (by omega)) ?_)
  refine Ev.bind (texts_ev _ (by omega)) ?_
  simp only [if_true]
  refine Ev.bind (ints_ev _ (by omega)) ?_
  simp only [if_true]
  exact heads_bind
end Go.Proofs.YtigbmfogfgbmfaaDoor.Pure
