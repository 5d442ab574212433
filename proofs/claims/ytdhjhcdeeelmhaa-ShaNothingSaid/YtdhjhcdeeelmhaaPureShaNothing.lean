import Derived.Test.YtdhjhcdeeelmhaaShaD
import Derived.Test.YtdhjhcdeeelmhaaHx0
import Derived.Test.YtdhjhcdeeelmhaaHx4
import Derived.Test.YtdhjhcdeeelmhaaHx5
namespace Go.Proofs.Ytdhjhcdeeelmhaa.Pure
open Go.RowKit Go.Proofs.Ytdhjhcdeeelmhaa.Fn Go.Proofs.YtdhjhcdeeelmhaaW.PrintWords Go.Proofs.YtdhjhcdeeelmhaaW.PrintLast Go.Proofs.Ytdhjhcdeeelmhaa.U
theorem ShaNothing : palimpsestlaw04_ShaNothing.Pure := by
  intro H B n l hH hB hn hl
  apply Ev.rounds
  have hn2 := u64_range hn
  have hd : Ev (fun k => (palimpsestlaw04_heads.f k).bind fun t => some t) true := Ev.bind (f := fun _ t => some t) heads_ev (Ev.now _)
  have hj : Ev (fun k => palimpsestlaw04_ShaNothing.j0 k l true H B n) true := by
    refine Ev.step (fun k => ?_) hd
    simp only [palimpsestlaw04_ShaNothing.j0, if_true]
  cases hc : sha_Check.f H B n with
  | none => unfold sha_Check.f at hc; split at hc <;> (first | (split at hc <;> cases hc) | cases hc)
  | some t =>
    cases t with
    | false =>
      refine Ev.congr (fun k => ?_) hj
      unfold palimpsestlaw04_ShaNothing.f
      rw [hc, Option.bind_some, if_neg (by decide)]
    | true =>
      by_cases h5 : (l.length : Int) > 500
      · refine Ev.congr (fun k => ?_) hj
        unfold palimpsestlaw04_ShaNothing.f
        rw [hc, Option.bind_some, if_pos rfl, decide_eq_true h5]
      · obtain ⟨h8, hB64, hBn⟩ := check_nat hc
        have hw0 : sha_Write.f H B n [] = some (H, B, n) := by
          rw [write_some hc (by simp; omega), List.append_nil, eatV_stop _ _ _ _ (by omega)]
          simp only [List.length_nil, Int.natCast_zero, wrap_u64 (x := 0) (by decide) (by decide), Int.add_zero, wrap_u64 hn2.1 hn2.2]
        have hw := write_some (l := l) hc (by omega)
        have hcl := check_write (l := l) hc hn2.1 (by omega)
        have hD := shaDone_ev H B n hc
        have hD2 := shaDone_ev _ _ _ hcl
        have hDl : (doneV H B n).length = 32 := by
          unfold doneV
          rw [outV_length, (eatV_length kWords _ H _ h8 (Nat.le_refl _)).1]
        have hmain : Ev (fun k => palimpsestlaw04_ShaNothing.j0 k l false H B n) true := by
          apply Ev.succ
          simp only [palimpsestlaw04_ShaNothing.j0, Bool.false_eq_true, if_false, hw0, hw, Option.bind_some]
          refine Ev.bind hD ?_
          refine Ev.bind (sameSha_ev H B n h8) ?_
          simp only [if_true]
          refine Ev.bind hD ?_
          simp only [same_ev, Option.bind_some, if_true, hDl, Int.cast_ofNat_Int]
          refine Ev.bind hD2 ?_
          refine Ev.bind hD2 ?_
          simp only [same_ev, Option.bind_some, if_true]
          exact hd
        refine Ev.congr (fun k => ?_) hmain
        unfold palimpsestlaw04_ShaNothing.f
        rw [hc, Option.bind_some, if_pos rfl, decide_eq_false h5]
end Go.Proofs.Ytdhjhcdeeelmhaa.Pure
