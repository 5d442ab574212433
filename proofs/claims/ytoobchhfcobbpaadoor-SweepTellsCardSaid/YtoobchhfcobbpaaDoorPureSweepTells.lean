import Derived.Test.YtoobchhfcobbpaaDoorSweepA
import Derived.Test.YtoobchhfcobbpaaDoorSweepH
import Derived.Test.YtoobchhfcobbpaaDoorHx0
import Derived.Test.YtoobchhfcobbpaaDoorHx14
namespace Go.Proofs.YtoobchhfcobbpaaDoor.Pure
open Go.RowKit Go.Proofs.YtoobchhfcobbpaaDoor.Fn Go.Proofs.YtoobchhfcobbpaaDoorW.PrintWords Go.Proofs.YtoobchhfcobbpaaDoorW.PrintLast
theorem tells_great (l : List Ent) (seen : List ByteArray) (packs used : List Int) (pack : Int) : Ev (fun k => l25_SweepTells.j0 k l seen packs used pack true) true :=
  Ev.step (f := fun k => (l25_heads.f k).bind fun t => some t) (fun k => by simp only [l25_SweepTells.j0]; rw [if_pos (by trivial)]) (Ev.bind heads_ev (Ev.now _))
theorem len_map_filter {α β : Type} (l : List α) (p : α → Bool) (f : α → β) : ((l.filter p).map f).length ≤ l.length := by rw [List.length_map]; exact List.length_filter_le _ _
theorem tells_small (l : List Ent) (seen : List ByteArray) (packs used : List Int) (pack : Int) (hl : l.length ≤ 300) (hs : seen.length ≤ 300) (hp : packs.length ≤ 100) (hu : used.length ≤ 100) : Ev (fun k => l25_SweepTells.j0 k l seen packs used pack false) true := by
  have d1 : (dirtyOf l seen packs used).length ≤ 100 := by unfold dirtyOf; split; exact Nat.le_trans (len_map_filter _ _ _) (by rw [List.length_zip]; omega); simp
  have d2 : (liveOf l seen pack).length ≤ 300 := by unfold liveOf; split; exact Nat.le_trans (len_map_filter _ _ _) hl; simp
  have d3 : (deadOf l seen).length ≤ 300 := by unfold deadOf; split; exact Nat.le_trans (len_map_filter _ _ _) hl; simp
  refine Ev.step (f := fun k => (q25_Dirty.f k l seen packs used).bind fun t453 => (q06_Ints.f k (dirtyOf l seen packs used) t453).bind fun t456 => if t456 = true then ((q25_Live.f k l seen pack).bind fun t460 => (q07_Same.f k (liveOf l seen pack) t460).bind fun t463 => if t463 = true then ((q25_Dead.f k l seen).bind fun t467 => (q07_Same.f k (deadOf l seen) t467).bind fun t470 => if t470 = true then ((l25_heads.f k).bind fun t471 => some t471) else some false) else some false) else some false) (fun k => ?_) ?_
  · simp only [l25_SweepTells.j0, sweep_Dirty.f, sweep_Live.f, sweep_Dead.f]
    rw [if_neg (by decide), if_pos (by omega), if_pos (by omega), if_pos (by omega)]; rfl
  · refine Ev.bind (ref25_Dirty_ev l seen packs used (by omega) (by omega) (by omega) (by omega)) (Ev.bind (ref06_Ints_ev _ (by omega)) ?_)
    refine Ev.congr (fun k => if_pos rfl) (Ev.bind (ref25_Live_ev l seen pack (by omega) (by omega)) (Ev.bind (ref07_Same_ev _ (by omega)) ?_))
    refine Ev.congr (fun k => if_pos rfl) (Ev.bind (ref25_Dead_ev l seen (by omega) (by omega)) (Ev.bind (ref07_Same_ev _ (by omega)) ?_))
    exact Ev.congr (fun k => if_pos rfl) (Ev.bind heads_ev (Ev.now _))
theorem SweepTells : l25_SweepTells.Pure := by
  intro l seen packs used pack _ _ _ _ _
  refine Ev.rounds ?_
  by_cases h1 : (l.length : Int) > 300
  · exact Ev.congr (fun k => by unfold l25_SweepTells.f; rw [if_pos h1]) (tells_great l seen packs used pack)
  · by_cases h2 : (seen.length : Int) > 300
    · exact Ev.congr (fun k => by unfold l25_SweepTells.f; rw [if_neg h1, if_pos h2]) (tells_great l seen packs used pack)
    · by_cases h3 : (packs.length : Int) > 100
      · exact Ev.congr (fun k => by unfold l25_SweepTells.f; rw [if_neg h1, if_neg h2, if_pos h3]) (tells_great l seen packs used pack)
      · by_cases h4 : (used.length : Int) > 100
        · exact Ev.congr (fun k => by unfold l25_SweepTells.f; rw [if_neg h1, if_neg h2, if_neg h3, decide_eq_true h4]) (tells_great l seen packs used pack)
        · exact Ev.congr (fun k => by unfold l25_SweepTells.f; rw [if_neg h1, if_neg h2, if_neg h3, decide_eq_false h4]) (tells_small l seen packs used pack (by omega) (by omega) (by omega) (by omega))
end Go.Proofs.YtoobchhfcobbpaaDoor.Pure
