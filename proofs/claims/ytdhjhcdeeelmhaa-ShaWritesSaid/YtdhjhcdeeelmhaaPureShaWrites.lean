import Derived.Test.YtdhjhcdeeelmhaaShaD
import Derived.Test.YtdhjhcdeeelmhaaHx0
import Derived.Test.YtdhjhcdeeelmhaaHx4
import Derived.Test.YtdhjhcdeeelmhaaHx12
namespace Go.Proofs.Ytdhjhcdeeelmhaa.Pure
open Go.RowKit Go.Proofs.Ytdhjhcdeeelmhaa.Fn Go.Proofs.YtdhjhcdeeelmhaaW.PrintWords Go.Proofs.YtdhjhcdeeelmhaaW.PrintLast Go.Proofs.Ytdhjhcdeeelmhaa.U
set_option linter.unusedVariables false
set_option linter.unusedSimpArgs false
theorem sameSha_any (H B : List Int) (n : Int) (hl : H.length < 4611686018427387904) : Ev (fun k => q04_Same.f k H B n H B n) true := by
  have hloop : ∀ d i : Nat, i + d = H.length → Ev (fun k => q04_Same.l0 k (i : Int) H B n H B n) true := by
    intro d
    induction d with
    | zero =>
      intro i hi
      obtain rfl : i = H.length := by omega
      refine Ev.step (fun k => ?_) (Ev.now _)
      simp only [q04_Same.l0]
      rw [if_neg (by omega), if_pos trivial, beq_self_eq_true]
    | succ d ih =>
      intro i hi
      refine Ev.step (fun k => ?_) (ih (i + 1) (by omega))
      have ei : wrap64 ((i : Int) + 1) = ((i + 1 : Nat) : Int) := by rw [w64 (by omega) (by omega)]; omega
      simp only [q04_Same.l0]
      rw [if_pos (by omega), if_pos (by omega), if_pos (by omega), if_pos trivial, ei]
  refine Ev.congr (fun k => ?_) (hloop H.length 0 (by omega))
  unfold q04_Same.f
  rw [if_pos rfl]; rfl
theorem ShaWrites : l04_ShaWrites.Pure := by
  intro H B n l hH hB hn hl
  apply Ev.rounds
  have hn2 := u64_range hn
  have hHW : Ws H := fun x hx => u32_range (hH.2.2 x hx)
  have hBW : Ws B := bytes_Ws (fun x hx => u8_range (hB.2.2 x hx))
  have hlW : Ws l := bytes_Ws (fun x hx => u8_range (hl.2.2 x hx))
  have hHl := hH.2.1
  have hBl := hB.2.1
  have hd : Ev (fun k => (l04_heads.f k).bind fun t => some t) true := Ev.bind (f := fun _ t => some t) heads_ev (Ev.now _)
  have hself := sameSha_any H B n (by omega)
  have hini := sameSha_any iniV [] 0 (by decide)
  by_cases h : (l.length : Int) > 2000
  · simp only [l04_ShaWrites.f, if_pos h]
    exact hd
  · have h1 : ([] : List Int).length + H.length < 35184372088832 := by simp; omega
    have h2 : ([] : List Int).length + B.length < 140737488355328 := by simp; omega
    simp only [l04_ShaWrites.f, if_neg h, Option.bind_some, if_pos h1, if_pos h2, List.nil_append]
    have hrest : Ev (fun k => (sha_New.f k).bind fun bt368 => ((q04_New.f).bind fun bt375 => ((q04_Same.f k bt368.1 bt368.2.1 bt368.2.2 bt375.1 bt375.2.1 bt375.2.2).bind fun t382 => (if t382 = true then ((q04_Same.f k H B n H B n).bind fun t383 => (if t383 = true then ((l04_heads.f k).bind fun t384 => (some t384)) else (some false))) else (some false))))) true := by
      refine Ev.bind new_ev ?_
      simp only [show q04_New.f = some (iniV, ([] : List Int), (0 : Int)) from rfl, Option.bind_some]
      refine Ev.bind hini ?_
      simp only [if_true]
      refine Ev.bind hself ?_
      simp only [if_true]
      exact hd
    have hck : ∀ b, q04_Check.f H B n = some b → sha_Check.f H B n = some b := fun b hb => hb
    cases hc : sha_Check.f H B n with
    | none => unfold sha_Check.f at hc; split at hc <;> (first | (split at hc <;> cases hc) | cases hc)
    | some t =>
      have hcr : q04_Check.f H B n = some t := hc
      cases t with
      | false =>
        have hw : sha_Write.f H B n l = some (H, B, n) := by unfold sha_Write.f; rw [hc, Option.bind_some, if_neg (by decide)]
        have hrw := refWrite_ev H B l n hHW hBW hlW hw
        have hD : ∀ k, sha_Done.f k H B n = some [] := fun k => by unfold sha_Done.f; rw [hc, Option.bind_some, if_neg (by decide)]
        have hD2 : ∀ k, q04_Done.f k H B n = some [] := fun k => by unfold q04_Done.f; rw [hcr, Option.bind_some, if_neg (by decide)]
        simp only [hw, Option.bind_some]
        refine Ev.bind hrw ?_
        refine Ev.bind hself ?_
        simp only [if_true, hD, hD2, Option.bind_some, same_ev, hcr, beq_self_eq_true]
        exact hrest
      | true =>
        obtain ⟨h8, hB64, _⟩ := check_nat hc
        have hw := write_some (l := l) hc (by omega)
        have hrw := refWrite_ev H B l n hHW hBW hlW hw
        have e8 := (eatV_length kWords (B ++ l).length H (B ++ l) h8 (Nat.le_refl _)).1
        have hs2 := sameSha_any (eatV kWords (B ++ l).length H (B ++ l)).1 (eatV kWords (B ++ l).length H (B ++ l)).2 (IntKind.u64.wrap (n + IntKind.u64.wrap (l.length : Int))) (by omega)
        have hD := shaDone_ev H B n hc
        have hD2 := refDone_ev H B n hHW hBW hc
        simp only [hw, Option.bind_some]
        refine Ev.bind hrw ?_
        refine Ev.bind hs2 ?_
        simp only [if_true]
        refine Ev.bind hD ?_
        refine Ev.bind hD2 ?_
        simp only [same_ev, if_true, hc, hcr, Option.bind_some, beq_self_eq_true]
        exact hrest
end Go.Proofs.Ytdhjhcdeeelmhaa.Pure
