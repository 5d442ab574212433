import Derived.Test.YtdhjhcdeeelmhaaShaC
import Derived.Test.YtdhjhcdeeelmhaaHx0
import Derived.Test.YtdhjhcdeeelmhaaHx3
import Derived.Test.YtdhjhcdeeelmhaaHx4
import Derived.Test.YtdhjhcdeeelmhaaHx10
namespace Go.Proofs.Ytdhjhcdeeelmhaa.Pure
open Go.RowKit Go.Proofs.Ytdhjhcdeeelmhaa.Fn Go.Proofs.YtdhjhcdeeelmhaaW.PrintWords Go.Proofs.YtdhjhcdeeelmhaaW.PrintLast Go.Proofs.Ytdhjhcdeeelmhaa.U
set_option linter.unusedVariables false
set_option linter.unusedSimpArgs false
theorem bytes_Ws {l : List Int} (h : ∀ x ∈ l, 0 ≤ x ∧ x < 256) : Ws l := fun x hx => ⟨(h x hx).1, by have := (h x hx).2; omega⟩
theorem write_ini (l : List Int) (hl : l.length < 140737488355328) : sha_Write.f iniV [] 0 l = some ((eatV kWords l.length iniV l).1, (eatV kWords l.length iniV l).2, (l.length : Int)) := by
  have h := write_some (l := l) check_ini (by simpa using hl)
  rw [List.nil_append, wrap_u64 (x := (l.length : Int)) (by omega) (by omega), wrap_u64 (by omega) (by omega), Int.zero_add] at h
  exact h
theorem check_of (l : List Int) (hl : l.length < 140737488355328) : sha_Check.f (eatV kWords l.length iniV l).1 (eatV kWords l.length iniV l).2 (l.length : Int) = some true := by
  have h := check_write (l := l) check_ini (by decide) (by simpa using hl)
  rw [List.nil_append, wrap_u64 (x := (l.length : Int)) (by omega) (by omega), wrap_u64 (by omega) (by omega), Int.zero_add] at h
  exact h
def sumOf (l : List Int) : List Int := doneV (eatV kWords l.length iniV l).1 (eatV kWords l.length iniV l).2 (l.length : Int)
theorem sum_ev (l : List Int) (hl : l.length < 140737488355328) : Ev (fun k => sha_Sum.f k l) (sumOf l) := by
  refine Ev.bind new_ev ?_
  refine Ev.congr (fun k => ?_) (Ev.bind (f := fun _ t => some t) (shaDone_ev _ _ _ (check_of l hl)) (Ev.now _))
  show (sha_Write.f iniV [] 0 l).bind _ = _
  rw [write_ini l hl, Option.bind_some]
def abcV : List Int := [186, 120, 22, 191, 143, 1, 207, 234, 65, 65, 64, 222, 93, 174, 34, 35, 176, 3, 97, 163, 150, 23, 122, 156, 180, 16, 255, 97, 242, 0, 21, 173]
theorem check_abc : sha_Check.f iniV [97, 98, 99] 3 = some true := by decide
set_option maxRecDepth 100000 in
theorem done_abc : doneV iniV [97, 98, 99] 3 = abcV :=
  Ev.uniq (refDone_ev iniV [97, 98, 99] 3 iniV_Ws (by unfold Ws W32; decide) check_abc) (Ev.of (q04_Done.mono _ _ _) (k := 400) (by decide +kernel))
theorem sum_abc : sumOf [97, 98, 99] = abcV := by
  unfold sumOf
  rw [eatV_stop _ _ _ _ (by decide)]
  exact done_abc
theorem same_ev (l : List Int) : q02_Same.f l l = some true := by unfold q02_Same.f; rw [beq_self_eq_true]
theorem write_a : sha_Write.f iniV [] 0 [97] = some (iniV, [97], 1) := by
  rw [write_ini _ (by decide), eatV_stop _ _ _ _ (by decide)]; rfl
theorem write_bc : sha_Write.f iniV [97] 1 [98, 99] = some (iniV, [97, 98, 99], 3) := by
  rw [write_some (by decide) (by decide), eatV_stop _ _ _ _ (by decide)]; rfl
theorem heads_ev : Ev (fun k => l04_heads.f k) true := by
  have hs := sum_ev [97, 98, 99] (by decide)
  rw [sum_abc] at hs
  have hd := shaDone_ev iniV [97, 98, 99] 3 check_abc
  rw [done_abc] at hd
  have hn : ∀ k, sha_Done.f k ([] : List Int) ([] : List Int) 0 = some [] := fun k => by
    unfold sha_Done.f
    rw [show sha_Check.f ([] : List Int) ([] : List Int) 0 = some false from by decide, Option.bind_some, if_neg (by decide)]
  refine Ev.bind hs (Ev.bind new_ev (Ev.congr (f := fun k => (sha_Done.f k iniV [97, 98, 99] 3).bind fun t193 => (q02_Same.f t193 abcV).bind fun t196 => if t196 = true then (if (3 : Int) = 3 then ((sha_Check.f iniV [97, 98, 99] 3).bind fun t197 => if t197 = true then ((sha_Check.f [] [] 0).bind fun t198 => if t198 = true then some false else ((sha_Done.f k [] [] 0).bind fun t199 => some ((t199.length : Int) == 0))) else some false) else some false) else some false) (fun k => ?_) (Ev.bind hd (Ev.congr (fun k => ?_) (Ev.now true)))))
  · show (sha_Write.f iniV [] 0 [97]).bind _ = _
    rw [write_a, Option.bind_some]
    dsimp only
    rw [write_bc, Option.bind_some]
    dsimp only
    rw [if_pos (by decide), if_pos (by decide), if_pos (by decide), if_pos (by decide), if_pos (by decide), if_pos (by decide), if_pos (by decide)]
  · rw [same_ev, Option.bind_some, if_pos rfl, if_pos rfl, check_abc, Option.bind_some, if_pos rfl, show sha_Check.f ([] : List Int) ([] : List Int) 0 = some false from by decide, Option.bind_some, if_neg (by decide), hn, Option.bind_some]; rfl
end Go.Proofs.Ytdhjhcdeeelmhaa.Pure
