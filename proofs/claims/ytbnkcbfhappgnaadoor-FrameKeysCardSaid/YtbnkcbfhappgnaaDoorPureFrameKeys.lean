import Derived.Test.YtbnkcbfhappgnaaDoorFrM
import Derived.Test.YtbnkcbfhappgnaaDoorHx0
import Derived.Test.YtbnkcbfhappgnaaDoorHx12
import Derived.Test.YtbnkcbfhappgnaaDoorHx19
namespace Go.Proofs.YtbnkcbfhappgnaaDoor.Pure
open Go.RowKit Go.Proofs.YtbnkcbfhappgnaaDoor.Fn Go.Proofs.YtbnkcbfhappgnaaDoorW.PrintWords Go.Proofs.YtbnkcbfhappgnaaDoorW.PrintLast Go.Proofs.YtbnkcbfhappgnaaDoor.U
set_option linter.unusedVariables false
set_option linter.unusedSimpArgs false
theorem next_ok (l : List Nat) (hb : ∀ x ∈ l, x < 256) (h : (nextV l).2.2.2.2 = 0) : ∃ (a : Nat) (d : List Nat) (n : Nat), nextV l = ((a : Int), keyOf (a : Int) (ofN d), ofN d, (n : Int), 0) ∧ 0 < n ∧ n ≤ l.length ∧ (∀ x ∈ d, x < 256) ∧ d.length ≤ l.length := by
  have bad : ∀ e : Int, e ≠ 0 → (noV e).2.2.2.2 = 0 → False := fun e he h => he h
  unfold nextV at h ⊢
  split at h
  · exact (bad 20 (by decide) h).elim
  rename_i h0
  rw [if_neg h0]
  split at h
  case isFalse => exact (bad 120 (by decide) h).elim
  rename_i h1
  rw [if_pos h1]
  split at h
  · exact (bad 20 (by decide) h).elim
  rename_i h2
  rw [if_neg h2]
  split at h
  case isFalse => exact (bad 120 (by decide) h).elim
  rename_i h3
  rw [if_pos h3]
  generalize R0 (l.drop 2) = r at h ⊢
  unfold nextR at h ⊢
  split at h
  · exact (bad 20 (by decide) h).elim
  rename_i h4
  rw [if_neg h4]
  split at h
  case isFalse => exact (bad 120 (by decide) h).elim
  rename_i h5
  rw [if_pos h5]
  split at h
  · exact (bad 120 (by decide) h).elim
  rename_i h6
  rw [if_neg h6]
  split at h
  · exact (bad 20 (by decide) h).elim
  rename_i h7
  rw [if_neg h7]
  split at h
  case isFalse => exact (bad 120 (by decide) h).elim
  rename_i h8
  rw [if_pos h8]
  refine ⟨l.getD 1 0, (l.take (2 + r.2.1 + r.1)).drop (2 + r.2.1), 2 + r.2.1 + r.1 + 4, rfl, by omega, by omega, fun x hx => hb x (List.mem_of_mem_take (List.mem_of_mem_drop hx)), by rw [List.length_drop, List.length_take]; omega⟩
def RecAt (l : List Nat) (r : S29) : Prop := ∃ (a : Nat) (d : List Nat), r = ⟨(a : Int), keyOf (a : Int) (ofN d), ofN d⟩ ∧ (∀ x ∈ d, x < 256) ∧ d.length ≤ l.length
theorem chain_ex (l : List Nat) (hb : ∀ x ∈ l, x < 256) : ∀ (fuel at_ : Nat), l.length < fuel + at_ → at_ ≤ l.length → ∃ (rs : List (S29)) (ps : List Int) (e : Nat), Chain l at_ rs ps e ∧ ps.length = rs.length ∧ at_ + rs.length ≤ e ∧ e ≤ l.length ∧ (∀ r ∈ rs, RecAt l r) ∧ (∀ p ∈ ps, (at_ : Int) ≤ p ∧ p < (e : Int)) ∧ ps.Pairwise (· < ·) := by
  intro fuel
  induction fuel with
  | zero => intro at_ h1 h2; omega
  | succ fuel ih =>
    intro at_ h1 h2
    by_cases herr : (nextV (l.drop at_)).2.2.2.2 = 0
    · obtain ⟨a, d, n, hn, h0, hle, hd, hdl⟩ := next_ok (l.drop at_) (fun x hx => hb x (List.mem_of_mem_drop hx)) herr
      rw [List.length_drop] at hle hdl
      obtain ⟨rs, ps, e, hc, g1, g2, g3, g4, g5, g6⟩ := ih (at_ + n) (by omega) (by omega)
      refine ⟨⟨(a : Int), keyOf (a : Int) (ofN d), ofN d⟩ :: rs, (at_ : Int) :: ps, e, Chain.more at_ n e rs ps _ _ _ hn (by omega) hc, by simp [g1], by simp; omega, g3, ?_, ?_, ?_⟩
      · intro r hr
        rcases List.mem_cons.1 hr with rfl | hr
        · exact ⟨a, d, rfl, hd, by omega⟩
        · exact g4 r hr
      · intro p hp
        rcases List.mem_cons.1 hp with rfl | hp
        · exact ⟨Int.le_refl _, by omega⟩
        · have := g5 p hp
          exact ⟨by omega, this.2⟩
      · refine List.pairwise_cons.2 ⟨fun p hp => ?_, g6⟩
        have := g5 p hp
        omega
    · exact ⟨[], [], at_, Chain.stop at_ herr, rfl, by simp, h2, (fun r hr => by cases hr), (fun p hp => by cases hp), List.Pairwise.nil⟩
theorem rdS_at (xs : List (S29)) (i : Nat) (h : i < xs.length) : rd_T29 xs (i : Int) = xs[i] := by
  unfold rd_T29
  rw [Int.toNat_natCast, List.getD_eq_getElem?_getD, List.getElem?_eq_getElem h]; rfl
theorem rdI_at (xs : List Int) (i : Nat) (h : i < xs.length) : rd xs (i : Int) = xs[i] := by
  unfold rd
  rw [Int.toNat_natCast, List.getD_eq_getElem?_getD, List.getElem?_eq_getElem h]; rfl
theorem keys_loop (l : List Nat) (hl : l.length ≤ 12000) (rs : List (S29)) (ps : List Int) (e : Nat) (g1 : ps.length = rs.length) (g2 : rs.length ≤ e) (g3 : e ≤ l.length) (g4 : ∀ r ∈ rs, RecAt l r) (g5 : ∀ p ∈ ps, (0 : Int) ≤ p ∧ p < (e : Int)) (g6 : ps.Pairwise (· < ·)) (c : Nat) :
    ∀ i : Nat, i + c = rs.length → Ev (fun k => l12_FrameKeys.l0 k rs ps (e : Int) (i : Int)) true := by
  induction c with
  | zero =>
    intro i hi
    obtain rfl : i = rs.length := by omega
    refine Ev.step (fun k => ?_) heads_bind
    simp only [l12_FrameKeys.l0]
    rw [if_neg (by omega)]
  | succ c ih =>
    intro i hi
    have hlt : i < rs.length := by omega
    have hlp : i < ps.length := by omega
    obtain ⟨a, d, hr, hd, hdl⟩ := g4 rs[i] (List.getElem_mem hlt)
    have hp := g5 ps[i] (List.getElem_mem hlp)
    have e1 : rd_T29 rs (i : Int) = ⟨(a : Int), keyOf (a : Int) (ofN d), ofN d⟩ := by rw [rdS_at rs i hlt, hr]
    have e2 := rdI_at ps i hlp
    have ei : wrap64 ((i : Int) + 1) = ((i + 1 : Nat) : Int) := wi i rs.length hlt (by omega)
    have hof := refOf_ev (a : Int) (ofN d) (fun x hx => by
      unfold ofN at hx
      obtain ⟨y, hy, rfl⟩ := List.mem_map.1 hx
      have := hd y hy
      exact ⟨Int.natCast_nonneg _, by show (y : Int) < 256; omega⟩) (by rw [ofN_length]; omega)
    have hnext := ih (i + 1) (by omega)
    have f1 : ¬ ps[i] < 0 := by omega
    have f2 : ¬ ps[i] ≥ (e : Int) := by omega
    refine Ev.step (f := fun k => (q07_Of.f k (a : Int) (ofN d)).bind fun t618 => (if (keyOf (a : Int) (ofN d)).toList = t618.toList then (l12_FrameKeys.l0 k rs ps (e : Int) ((i + 1 : Nat) : Int)) else some false)) (fun k => ?_) (Ev.bind hof (by simp only [if_true]; exact hnext))
    simp only [l12_FrameKeys.l0]
    rw [if_pos (by omega), if_pos (by omega), e1, e2]
    simp only [if_pos (show (i : Int) < (ps.length : Int) by omega), if_neg f1, if_neg f2, ei]
    by_cases hz : i = 0
    · subst hz
      simp
    · have ej : wrap64 ((i : Int) - 1) = ((i - 1 : Nat) : Int) := by rw [w64 (by omega) (by omega)]; omega
      have e3 := rdI_at ps (i - 1) (by omega)
      have hpw : ps[i - 1] < ps[i] := (List.pairwise_iff_getElem.1 g6) (i - 1) i (by omega) hlp (by omega)
      simp only [if_pos (show (i : Int) > 0 by omega), ej, e3, if_pos (show (0 : Int) ≤ ((i - 1 : Nat) : Int) by omega), if_pos (show ((i - 1 : Nat) : Int) < (ps.length : Int) by omega), if_neg (show ¬ ps[i] ≤ ps[i - 1] by omega)]
theorem FrameKeys : l12_FrameKeys.Pure := by
  intro l1 hl1
  apply Ev.rounds
  obtain ⟨l, rfl, hb⟩ := bytes_of hl1.2.2
  clear hl1
  by_cases h12 : ((ofN l).length : Int) > 12000
  · refine Ev.congr (fun k => ?_) heads_bind
    unfold l12_FrameKeys.f
    rw [if_pos h12]
  have hl : l.length ≤ 12000 := by rw [ofN_length] at h12; omega
  obtain ⟨rs, ps, e, hc, g1, g2, g3, g4, g5, g6⟩ := chain_ex l hb (l.length + 1) 0 (by omega) (by omega)
  have sc := scan_ev l hb (by omega) hc (by omega) (by omega)
  refine Ev.congr (f := fun k => (frame_Scan.f k (ofN l)).bind fun bt608 => (if (bt608.2.1.length : Int) = (bt608.1.length : Int) then (if bt608.2.2 < 0 then (l12_FrameKeys.j0 k bt608.1 bt608.2.1 bt608.2.2 true) else (l12_FrameKeys.j0 k bt608.1 bt608.2.1 bt608.2.2 (decide (bt608.2.2 > ((ofN l).length : Int))))) else (l12_FrameKeys.j0 k bt608.1 bt608.2.1 bt608.2.2 true))) (fun k => ?_) (Ev.bind sc ?_)
  · unfold l12_FrameKeys.f
    rw [if_neg h12]
  simp only [if_pos (show (ps.length : Int) = (rs.length : Int) by omega), if_neg (show ¬ (e : Int) < 0 by omega)]
  rw [decide_eq_false (by rw [ofN_length]; omega)]
  refine Ev.step (fun k => ?_) (keys_loop l hl rs ps e g1 (by omega) g3 g4 (fun p hp => by have := g5 p hp; exact ⟨by omega, this.2⟩) g6 rs.length 0 (by omega))
  simp only [l12_FrameKeys.j0]
  rw [if_neg (by decide)]
  all_goals rfl
end Go.Proofs.YtbnkcbfhappgnaaDoor.Pure
