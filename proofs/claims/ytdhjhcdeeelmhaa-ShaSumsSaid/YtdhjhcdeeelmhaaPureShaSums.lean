/- ShaSums: the digest of bytes is the document's: at every bytes of at most 2000. No condition besides the reader's own bound on what comes in. -/
import Derived.Test.YtdhjhcdeeelmhaaShaD
import Derived.Test.YtdhjhcdeeelmhaaHx0
import Derived.Test.YtdhjhcdeeelmhaaHx4
import Derived.Test.YtdhjhcdeeelmhaaHx10

namespace Go.Proofs.Ytdhjhcdeeelmhaa.Pure
open Go.RowKit Go.Proofs.Ytdhjhcdeeelmhaa.Fn Go.Proofs.YtdhjhcdeeelmhaaW.PrintWords Go.Proofs.YtdhjhcdeeelmhaaW.PrintLast Go.Proofs.Ytdhjhcdeeelmhaa.U
theorem ShaSums : palimpsestlaw04_ShaSums.Pure := by
  intro l _ _ hb
  apply Ev.rounds
  have hW : Ws l := bytes_Ws (fun x hx => u8_range (hb x hx))
  by_cases h : (l.length : Int) > 2000
  · refine Ev.congr (fun k => ?_) (Ev.bind (f := fun _ t => some t) heads_ev (Ev.now _))
    unfold palimpsestlaw04_ShaSums.f
    rw [if_pos h]
  · have hl : l.length < 140737488355328 := by omega
    simp only [palimpsestlaw04_ShaSums.f, if_neg h]
    refine Ev.bind (sum_ev l hl) ?_
    refine Ev.bind (refSum_ev l hW hl) ?_
    simp only [same_ev, Option.bind_some, if_true]
    exact Ev.bind (f := fun _ t => some t) heads_ev (Ev.now _)
end Go.Proofs.Ytdhjhcdeeelmhaa.Pure
