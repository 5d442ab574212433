/- SpaceSets: at every number and every row of slots (of at most 5000; a longer one is told the heads alone) the program's Set answers what the document's does. No condition besides the reader's own bound on lengths. -/
import Derived.Test.YtijipdpeojpbgaaSpaceA
import Derived.Test.YtijipdpeojpbgaaHx0
import Derived.Test.YtijipdpeojpbgaaHx4
namespace Go.Proofs.Ytijipdpeojpbgaa.Pure
open Go.RowKit Go.Proofs.Ytijipdpeojpbgaa.Fn Go.Proofs.YtijipdpeojpbgaaW.PrintWords Go.Proofs.YtijipdpeojpbgaaW.PrintLast Go.Proofs.Ytijipdpeojpbgaa.SpaceA

theorem SpaceSets : palimpsestlaw10_SpaceSets.Pure := by
  intro a l _ _ _ _
  obtain ⟨K9, h9⟩ := heads_ev
  dsimp only at h9
  by_cases hl : (l.length : Int) > 5000
  · refine ⟨K9, ?_⟩
    unfold palimpsestlaw10_SpaceSets.f
    rw [if_pos hl, h9 K9 (by omega)]
    rfl
  · obtain ⟨r, hr, K1, h1⟩ := set_ev a l (by omega)
    obtain ⟨K2, h2⟩ := same_ev r.1 hr
    dsimp only at h1 h2
    refine ⟨K1 + K2 + K9, ?_⟩
    unfold palimpsestlaw10_SpaceSets.f
    rw [if_neg hl, ← set_f, h1 (K1 + K2 + K9) (by omega)]
    simp only [Option.bind_some]
    rw [h2 (K1 + K2 + K9) (by omega), h9 (K1 + K2 + K9) (by omega)]
    simp
end Go.Proofs.Ytijipdpeojpbgaa.Pure
