/- LebCut: each beginning of a number's bytes is short: at every number and every cut. No condition. -/
import Derived.Test.YtnlndcidnomioaaDoorLebB
import Derived.Test.YtnlndcidnomioaaDoorHx0
import Derived.Test.YtnlndcidnomioaaDoorHx3
namespace Go.Proofs.YtnlndcidnomioaaDoor.Pure
open Go.RowKit Go.Proofs.YtnlndcidnomioaaDoor.Fn Go.Proofs.YtnlndcidnomioaaDoorW.PrintWords Go.Proofs.YtnlndcidnomioaaDoorW.PrintLast Go.Proofs.YtnlndcidnomioaaDoor.U Go.Proofs.YtnlndcidnomioaaDoor.LebA Go.Proofs.YtnlndcidnomioaaDoor.LebB
theorem LebCut : palimpsestlaw02_LebCut.Pure := by
  intro x0 cut hx0 hc0
  have hx1 := u64_range hx0
  obtain ⟨x, rfl⟩ := Int.eq_ofNat_of_zero_le hx1.1
  have hx : x < 18446744073709551616 := by omega
  clear hx0 hc0 hx1
  have fx := sz_fit hx
  have hs := sz_le hx
  apply Ev.rounds
  unfold palimpsestlaw02_LebCut.f
  refine Ev.bind (put_ev hx) ?_
  have hlen : ((ofN (D (sz x) x)).length : Int) = ((sz x : Nat) : Int) := by rw [ofN_length, D_length]
  have hlt := D_lt (sz x) x fx.2.1
  by_cases hout : cut < 0 ∨ cut ≥ ((sz x : Nat) : Int)
  · have j0 : Ev (fun k => palimpsestlaw02_LebCut.j0 k cut (ofN (D (sz x) x)) true) true := by
      refine Ev.step (f := fun k => (palimpsestlaw02_heads.f k).bind fun t => some t) (fun k => ?_) heads_bind
      simp only [palimpsestlaw02_LebCut.j0]
      rw [if_pos trivial]
    refine Ev.congr (fun k => ?_) j0
    by_cases h : cut < 0
    · rw [if_pos h]
    · rw [if_neg h, hlen, decide_eq_true (by omega)]
  · have h0 : 0 ≤ cut := by omega
    obtain ⟨c, rfl⟩ := Int.eq_ofNat_of_zero_le h0
    have hcm : c < sz x := by omega
    have key : Ev (fun k => palimpsestlaw02_LebCut.j0 k (c : Int) (ofN (D (sz x) x)) false) true := by
      have g := Get_ev (l := (D (sz x) x).take c) (fun d hd => hlt d (List.mem_of_mem_take hd))
      have e10 : ((D (sz x) x).take c).take 10 = (D (sz x) x).take c := by
        rw [List.take_of_length_le]
        rw [List.length_take]
        omega
      rw [e10, R_cut (sz x) x 0 0 c hcm (by omega)] at g
      have hb : Ev (fun k => (leb_Get.f k (ofN ((D (sz x) x).take c))).bind fun bt => if bt.2.2 = 20 then (if bt.2.1 = 0 then ((palimpsestlaw02_heads.f k).bind fun t => some t) else some false) else some false) true :=
        Ev.bind g (Ev.congr (fun k => by simp [c3]) heads_bind)
      refine Ev.step (fun k => ?_) hb
      simp only [palimpsestlaw02_LebCut.j0]
      rw [if_neg (by simp), if_pos (by omega), hlen, if_pos (by omega), Int.toNat_natCast, ofN_take]
    refine Ev.congr (fun k => ?_) key
    rw [if_neg (by omega), hlen, decide_eq_false (by omega)]
end Go.Proofs.YtnlndcidnomioaaDoor.Pure
