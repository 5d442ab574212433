import Derived.Test.YtigbmfogfgbmfaaDoorUnC
import Derived.Test.YtigbmfogfgbmfaaDoorHx0
import Derived.Test.YtigbmfogfgbmfaaDoorHx12
namespace Go.Proofs.YtigbmfogfgbmfaaDoor.Pure
open Go.RowKit Go.Proofs.YtigbmfogfgbmfaaDoor.Fn Go.Proofs.YtigbmfogfgbmfaaDoorW.PrintWords Go.Proofs.YtigbmfogfgbmfaaDoorW.PrintLast Go.Proofs.YtigbmfogfgbmfaaDoor.U
set_option linter.unusedVariables false
set_option linter.unusedSimpArgs false
theorem tells_great (l0 : List ByteArray) (l1 : List Int) (l2 : List ByteArray) (l3 : List Int) : Ev (fun k => l21_UnionTells.j0 k l0 l1 l2 l3 true) true :=
  Ev.step (fun k => by simp only [l21_UnionTells.j0]; rw [if_pos (by trivial)]) heads_bind
theorem diffV_length (l0 : List ByteArray) (l1 : List Int) (l2 : List ByteArray) (l3 : List Int) (h0 : l0.length ≤ 400) (h2 : l2.length ≤ 400) : (diffV l0 l1 l2 l3).2.1.length ≤ 800 ∧ (diffV l0 l1 l2 l3).2.2.1.length ≤ 800 := by
  have := dN_length l0 l1 l2 l3
  unfold diffV
  split
  · split
    · unfold dM; simp only [List.length_map]; omega
    · simp
  · simp
theorem opaqueV_length (l : List ByteArray) (n : List Int) (h0 : l.length ≤ 400) : (opaqueV l n).2.1.length ≤ 400 ∧ (opaqueV l n).2.2.1.length ≤ 400 := by
  unfold opaqueV
  split
  next h => have := (W.of h).eq; exact ⟨h0, by show n.length ≤ 400; omega⟩
  next => simp
theorem UnionTells : l21_UnionTells.Pure := by
  intro l0 l1 l2 l3 h0 h1 h2 h3
  have b1 := h1.2.1
  have b3 := h3.2.1
  refine Ev.rounds (g := fun k => l21_UnionTells.f k l0 l1 l2 l3) ?_
  unfold l21_UnionTells.f
  by_cases c0 : (l0.length : Int) > 400
  · simp only [if_pos c0]; exact tells_great l0 l1 l2 l3
  simp only [if_neg c0]
  by_cases c2 : (l2.length : Int) > 400
  · rw [decide_eq_true c2]; exact tells_great l0 l1 l2 l3
  rw [decide_eq_false c2]
  have hd := diffV_length l0 l1 l2 l3 (by omega) (by omega)
  have ho := opaqueV_length l2 l3 (by omega)
  refine Ev.step (fun k => by simp only [l21_UnionTells.j0]; rw [if_neg (by decide)]) ?_
  refine Ev.bind (diff_ev l0 l1 l2 l3 (by omega) (by omega)) (Ev.bind (refdiff_ev l0 l1 l2 l3 (by omega) (by omega) (by omega) (by omega)) (Ev.bind (opaque_ev l2 l3 (by omega)) (Ev.bind (refopaque_ev l2 l3 (by omega) (by omega)) ?_)))
  refine Ev.bind (listings_ev _ _ _ (by omega) (by omega)) ?_
  simp only [if_true]
  refine Ev.bind (listings_ev _ _ _ (by omega) (by omega)) ?_
  simp only [if_true]
  exact heads_bind
end Go.Proofs.YtigbmfogfgbmfaaDoor.Pure
