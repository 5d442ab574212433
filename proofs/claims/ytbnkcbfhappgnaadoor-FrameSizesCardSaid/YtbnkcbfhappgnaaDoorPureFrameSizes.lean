import Derived.Test.YtbnkcbfhappgnaaDoorFrM
import Derived.Test.YtbnkcbfhappgnaaDoorHx0
import Derived.Test.YtbnkcbfhappgnaaDoorHx14
namespace Go.Proofs.YtbnkcbfhappgnaaDoor.Pure
open Go.RowKit Go.Proofs.YtbnkcbfhappgnaaDoor.Fn Go.Proofs.YtbnkcbfhappgnaaDoorW.PrintWords Go.Proofs.YtbnkcbfhappgnaaDoorW.PrintLast Go.Proofs.YtbnkcbfhappgnaaDoor.U
set_option linter.unusedVariables false
set_option linter.unusedSimpArgs false
theorem FrameSizes : l12_FrameSizes.Pure := by
  intro a l1 ha hl1
  apply Ev.rounds
  obtain ⟨d, rfl, hd⟩ := bytes_of hl1.2.2
  clear hl1 ha
  by_cases h9 : ((ofN d).length : Int) > 9000
  · refine Ev.congr (fun k => ?_) heads_bind
    unfold l12_FrameSizes.f
    rw [if_pos h9]
  have hl : d.length ≤ 9000 := by rw [ofN_length] at h9; omega
  have m := made_ev a d hd (by omega)
  have p := framePut_ev a (keyOf a (ofN d)) d hd (by omega)
  have hbad : ∀ x5 : List Int, Ev (fun k => l12_FrameSizes.j0 k (ofN d) [] 120 true) true := fun _ => by
    refine Ev.step (fun k => ?_) heads_bind
    simp only [l12_FrameSizes.j0, if_true]
    rw [if_pos (by decide)]
  refine Ev.congr (f := fun k => (l12_made.f k a (ofN d)).bind fun bt436 => ((frame_Put.f k bt436.1 bt436.2.1 bt436.2.2).bind fun bt441 => (if a < 1 then (l12_FrameSizes.j0 k (ofN d) bt441.1 bt441.2 true) else (if a > 4 then (l12_FrameSizes.j0 k (ofN d) bt441.1 bt441.2 true) else (l12_FrameSizes.j0 k (ofN d) bt441.1 bt441.2 (decide (((ofN d).length : Int) > 8192))))))) (fun k => ?_) (Ev.bind m (Ev.bind p ?_))
  · unfold l12_FrameSizes.f
    rw [if_neg h9]
  by_cases h1 : a < 1
  · simp only [if_pos h1]
    rw [show putV a (keyOf a (ofN d)) d = ([], 120) from if_neg (fun h => by omega)]
    exact hbad []
  · by_cases h4 : a > 4
    · simp only [if_neg h1, if_pos h4]
      rw [show putV a (keyOf a (ofN d)) d = ([], 120) from if_neg (fun h => by omega)]
      exact hbad []
    · simp only [if_neg h1, if_neg h4]
      by_cases h8 : d.length ≤ 8192
      · rw [show putV a (keyOf a (ofN d)) d = (ofN (rec a.toNat d), 0) from if_pos ⟨by omega, by omega, h8, rfl⟩, decide_eq_false (by rw [ofN_length]; omega)]
        refine Ev.step (fun k => ?_) heads_bind
        simp only [l12_FrameSizes.j0, if_true]
        rw [if_neg (by decide), size_ev, Option.bind_some, if_pos]
        rw [ofN_length, ofN_length, rec_length]
        unfold sizeV
        rw [if_neg (by omega), Int.toNat_natCast]
        omega
      · rw [show putV a (keyOf a (ofN d)) d = ([], 120) from if_neg (fun h => h8 h.2.2.1), decide_eq_true (by rw [ofN_length]; omega)]
        exact hbad []
end Go.Proofs.YtbnkcbfhappgnaaDoor.Pure
