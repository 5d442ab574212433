import Derived.Test.YtdhjhcdeeelmhaaShaD
import Derived.Test.YtdhjhcdeeelmhaaHx0
import Derived.Test.YtdhjhcdeeelmhaaHx4
import Derived.Test.YtdhjhcdeeelmhaaHx11
namespace Go.Proofs.Ytdhjhcdeeelmhaa.Pure
open Go.RowKit Go.Proofs.Ytdhjhcdeeelmhaa.Fn Go.Proofs.YtdhjhcdeeelmhaaW.PrintWords Go.Proofs.YtdhjhcdeeelmhaaW.PrintLast Go.Proofs.Ytdhjhcdeeelmhaa.U
theorem write_more (l m : List Int) (h : l.length + m.length < 140737488355328) :
    sha_Write.f (eatV kWords l.length iniV l).1 (eatV kWords l.length iniV l).2 (l.length : Int) m = some ((eatV kWords (l ++ m).length iniV (l ++ m)).1, (eatV kWords (l ++ m).length iniV (l ++ m)).2, ((l ++ m).length : Int)) := by
  have h2 := (eatV_length kWords l.length iniV l rfl (Nat.le_refl _)).2
  have hle : (eatV kWords l.length iniV l).2.length ≤ l.length := by rw [h2]; exact Nat.mod_le _ _
  have ha := eatV_append kWords l.length iniV l m (Nat.le_refl _) (l ++ m).length (Nat.le_refl _)
  have hl : (l ++ m).length = l.length + m.length := List.length_append
  rw [write_some (check_of l (by omega)) (by omega), eatV_fuel kWords _ (l ++ m).length _ _ (Nat.le_refl _) (by rw [List.length_append, hl]; omega), ← ha, wrap_u64 (x := (m.length : Int)) (by omega) (by omega), wrap_u64 (by omega) (by omega), hl]
  simp
theorem pieces_l0 (l0 : List (List Int)) (hn : l0.length ≤ 40) (d : Nat) : ∀ (i : Nat) (all : List Int), i + d = l0.length → all.length ≤ 200 * i →
    Ev (fun k => palimpsestlaw04_ShaPieces.l0 k l0 all (i : Int) (eatV kWords all.length iniV all).1 (eatV kWords all.length iniV all).2 (all.length : Int)) true := by
  have hd : Ev (fun k => (palimpsestlaw04_heads.f k).bind fun t => some t) true := Ev.bind (f := fun _ t => some t) heads_ev (Ev.now _)
  induction d with
  | zero =>
    intro i all hi ha
    obtain rfl : i = l0.length := by omega
    have hl : all.length < 140737488355328 := by omega
    have e8 := (eatV_length kWords all.length iniV all rfl (Nat.le_refl _)).1
    apply Ev.succ
    simp only [palimpsestlaw04_ShaPieces.l0, Int.lt_irrefl, if_false]
    refine Ev.bind (shaDone_ev _ _ _ (check_of all hl)) ?_
    refine Ev.bind (sum_ev all hl) ?_
    simp only [show doneV (eatV kWords all.length iniV all).1 (eatV kWords all.length iniV all).2 (all.length : Int) = sumOf all from rfl, same_ev, Option.bind_some, if_true]
    refine Ev.bind new_ev ?_
    simp only [write_ini all hl, Option.bind_some]
    refine Ev.bind (sameSha_ev _ _ (all.length : Int) e8) ?_
    simp only [if_true]
    exact hd
  | succ d ih =>
    intro i all hi ha
    have hlt : i < l0.length := by omega
    obtain ⟨p, hp⟩ : ∃ p, rd_L2 l0 (i : Int) = p := ⟨_, rfl⟩
    have ei : wrap64 ((i : Int) + 1) = ((i + 1 : Nat) : Int) := by rw [w64 (by omega) (by omega)]; omega
    by_cases h2 : (p.length : Int) > 200
    · refine Ev.step (fun k => ?_) hd
      simp only [palimpsestlaw04_ShaPieces.l0]
      rw [if_pos (by omega), if_pos (by omega), hp, if_pos h2]
    · have hw := write_more all p (by omega)
      have hc := check_of (all ++ p) (by rw [List.length_append]; omega)
      refine Ev.step (fun k => ?_) (ih (i + 1) (all ++ p) (by omega) (by rw [List.length_append]; omega))
      simp only [palimpsestlaw04_ShaPieces.l0]
      rw [if_pos (by omega), if_pos (by omega), hp, if_neg h2, if_pos (by omega), Option.bind_some, hw, Option.bind_some]
      dsimp only
      rw [hc, Option.bind_some, if_pos rfl, wrap_u64 (by omega) (by rw [List.length_append]; omega), if_pos rfl, ei]
theorem ShaPieces : palimpsestlaw04_ShaPieces.Pure := by
  intro l0 hl
  apply Ev.rounds
  by_cases h : (l0.length : Int) > 40
  · refine Ev.congr (fun k => ?_) (Ev.bind (f := fun _ t => some t) heads_ev (Ev.now _))
    unfold palimpsestlaw04_ShaPieces.f
    rw [if_pos h]
  · have h0 := pieces_l0 l0 (by omega) l0.length 0 [] (by omega) (by simp)
    refine Ev.congr (fun k => ?_) (Ev.bind (f := fun k (bt : List Int × List Int × Int) => palimpsestlaw04_ShaPieces.l0 k l0 ([] : List Int) 0 bt.1 bt.2.1 bt.2.2) new_ev h0)
    unfold palimpsestlaw04_ShaPieces.f
    rw [if_neg h]
end Go.Proofs.Ytdhjhcdeeelmhaa.Pure
