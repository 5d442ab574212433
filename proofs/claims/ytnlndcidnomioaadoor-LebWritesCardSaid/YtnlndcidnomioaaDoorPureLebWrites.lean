/- LebWrites: which bytes numbers, and bytes with their length, are: at every number and every bytes. No condition besides the reader's own bound on lengths. -/
import Derived.Test.YtnlndcidnomioaaDoorLebB
import Derived.Test.YtnlndcidnomioaaDoorHx0
import Derived.Test.YtnlndcidnomioaaDoorHx4
namespace Go.Proofs.YtnlndcidnomioaaDoor.Pure
open Go.RowKit Go.Proofs.YtnlndcidnomioaaDoor.Fn Go.Proofs.YtnlndcidnomioaaDoorW.PrintWords Go.Proofs.YtnlndcidnomioaaDoorW.PrintLast Go.Proofs.YtnlndcidnomioaaDoor.U Go.Proofs.YtnlndcidnomioaaDoor.LebA Go.Proofs.YtnlndcidnomioaaDoor.LebB
theorem rput_l0 (n : Nat) : ∀ (x : Nat) (acc : List Nat), x < 18446744073709551616 → x < 128 ^ (n + 1) → acc.length + n < 1000 → Ev (fun k => palimpsestref02_Put.l0 k (x : Int) (ofN acc)) (ofN (acc ++ E n x)) := by
  have app : ∀ (acc : List Nat) (y : Nat), ofN acc ++ [(y : Int)] = ofN (acc ++ [y]) := fun acc y => by simp
  induction n with
  | zero =>
    intro x acc hx h ha
    simp at h
    refine Ev.step (fun k => ?_) (Ev.now _)
    simp only [palimpsestref02_Put.l0, E]
    have e : (x : Int) % 256 = (x : Int) := by omega
    rw [if_neg (by omega), ofN_length, if_pos (by omega), e, app]
  | succ n ih =>
    intro x acc hx h ha
    by_cases h1 : x < 128
    · refine Ev.step (fun k => ?_) (Ev.now _)
      simp only [palimpsestref02_Put.l0, E]
      have e : (x : Int) % 256 = (x : Int) := by omega
      rw [if_neg (by omega), ofN_length, if_pos (by omega), e, if_pos h1, app]
    · have key := ih (x / 128) (acc ++ [x % 128 + 128]) (by omega) (by rw [Nat.div_lt_iff_lt_mul (by decide)]; rw [Nat.pow_succ] at h; exact h) (by simp; omega)
      have eE : E (n + 1) x = (x % 128 + 128) :: E n (x / 128) := by simp only [E]; rw [if_neg h1]
      rw [List.append_assoc] at key
      rw [eE]
      refine Ev.step (fun k => ?_) key
      simp only [palimpsestref02_Put.l0]
      have e1 : IntKind.u64.wrap (Int.tdiv (x : Int) 128) = ((x / 128 : Nat) : Int) := by
        rw [Int.tdiv_eq_ediv_of_nonneg (by omega), wu (by omega) (by omega)]
        omega
      have e2 : IntKind.u64.wrap (Int.tmod (x : Int) 128 + 128) % 256 = ((x % 128 + 128 : Nat) : Int) := by
        rw [Int.tmod_eq_emod_of_nonneg (by omega), wu (by omega) (by omega)]
        omega
      rw [if_pos (by omega), ofN_length, if_pos (by omega), e1, e2, app]
theorem rput_ev {x : Nat} (hx : x < 18446744073709551616) : Ev (fun k => palimpsestref02_Put.f k (x : Int)) (ofN (D (sz x) x)) := by
  have h := rput_l0 9 x [] hx (by have e : 128 ^ (9 + 1) = 1180591620717411303424 := by decide
                                  omega) (by simp)
  rw [List.nil_append, E_D (sz x) 9 x (sz_le hx) (sz_fit hx)] at h
  exact h
theorem LebWrites : palimpsestlaw02_LebWrites.Pure := by
  intro x0 l1 hx0 hl
  have hx1 := u64_range hx0
  obtain ⟨x, rfl⟩ := Int.eq_ofNat_of_zero_le hx1.1
  have hx : x < 18446744073709551616 := by omega
  clear hx0 hx1
  obtain ⟨b, rfl, hb⟩ := bytes_of hl.2.2
  have hbl : b.length * 1 ≤ 140737488351232 := by have := hl.2.1; rw [ofN_length] at this; exact this
  clear hl
  have hn : b.length < 18446744073709551616 := by omega
  have hlen : IntKind.u64.wrap ((ofN b).length : Int) = ((b.length : Nat) : Int) := by rw [ofN_length, wu (by omega) (by omega)]
  have hb1 : Ev (fun k => leb_Bytes.f k (ofN b)) (ofN (D (sz b.length) b.length) ++ ofN b) := by
    unfold leb_Bytes.f
    rw [hlen]
    refine Ev.bind (put_ev hn) (Ev.congr (fun k => ?_) (Ev.now _))
    have := sz_le hn
    rw [if_pos (by rw [ofN_length, ofN_length, D_length]; omega)]
  have hb2 : Ev (fun k => palimpsestref02_Bytes.f k (ofN b)) (ofN (D (sz b.length) b.length) ++ ofN b) := by
    unfold palimpsestref02_Bytes.f
    rw [hlen]
    refine Ev.bind (rput_ev hn) (Ev.congr (fun k => ?_) (Ev.now _))
    have := sz_le hn
    rw [if_pos (by rw [ofN_length, ofN_length, D_length]; omega)]
  apply Ev.rounds
  unfold palimpsestlaw02_LebWrites.f
  refine Ev.bind (put_ev hx) (Ev.bind (rput_ev hx) ?_)
  have tail : Ev (fun k => (leb_Bytes.f k (ofN b)).bind fun t202 => ((palimpsestref02_Bytes.f k (ofN b)).bind fun t205 => ((palimpsestref02_Same.f t202 t205).bind fun t208 => (if t208 = true then ((leb_Size.f (x : Int)).bind fun t209 => ((palimpsestref02_Put.f k (x : Int)).bind fun t210 => (if t209 = (t210.length : Int) then ((palimpsestlaw02_heads.f k).bind fun t213 => (some t213)) else (some false)))) else (some false))))) true := by
    refine Ev.bind hb1 (Ev.bind hb2 ?_)
    have t2 : Ev (fun k => (palimpsestref02_Put.f k (x : Int)).bind fun t210 => (if ((sz x : Nat) : Int) = (t210.length : Int) then ((palimpsestlaw02_heads.f k).bind fun t213 => (some t213)) else (some false))) true := by
      refine Ev.bind (rput_ev hx) (Ev.congr (fun k => ?_) heads_bind)
      rw [if_pos (by rw [ofN_length, D_length])]
    refine Ev.congr (fun k => ?_) t2
    rw [same_self, size_eq hx]
    simp
  refine Ev.congr (fun k => ?_) tail
  rw [same_self]
  simp
end Go.Proofs.YtnlndcidnomioaaDoor.Pure
