-- written by a program of this session (hprint.py, over the kit's print) out of the translation
import Derived.Test.YtnlndcidnomioaaDoorHx0
import Derived.Test.YtnlndcidnomioaaDoorHx1
import Derived.Test.YtnlndcidnomioaaDoorHx2
namespace Go.Proofs.YtnlndcidnomioaaDoor.Fn
open Go.RowKit Go.Proofs.YtnlndcidnomioaaDoorW.PrintWords Go.Proofs.YtnlndcidnomioaaDoorW.PrintLast Go.Proofs.YtnlndcidnomioaaDoorW.PrintMore
attribute [local go_sem] max2_int min2_int max_two min_two max_three min_three max_four min_four   -- for this text's walks alone
set_option linter.unusedVariables false
set_option linter.unusedSimpArgs false

/-! ### palimpsestlaw02_LebSizes: function 3 -/
def palimpsestlaw02_LebSizes.j0 : Nat → Int → Int → Bool → Option (Bool)
  | 0, _, _, _ => none
  | k + 1, x0, x5, x31 => if x31 = true then (some false) else (if x5 < 10 then (if 0 ≤ (IntKind.u64.wrap (wrap64 (7 * x5))) then (if (shr .u64 x0 (IntKind.u64.wrap (wrap64 (7 * x5)))) = 0 then (if x5 > 1 then (if 0 ≤ (IntKind.u64.wrap (wrap64 ((wrap64 (7 * x5)) - 7))) then (if (shr .u64 x0 (IntKind.u64.wrap (wrap64 ((wrap64 (7 * x5)) - 7)))) = 0 then (some false) else ((palimpsestlaw02_heads.f k).bind fun t151 => (some t151))) else (none)) else ((palimpsestlaw02_heads.f k).bind fun t152 => (some t152))) else (some false)) else (none)) else (if x5 > 1 then (if 0 ≤ (IntKind.u64.wrap (wrap64 ((wrap64 (7 * x5)) - 7))) then (if (shr .u64 x0 (IntKind.u64.wrap (wrap64 ((wrap64 (7 * x5)) - 7)))) = 0 then (some false) else ((palimpsestlaw02_heads.f k).bind fun t153 => (some t153))) else (none)) else ((palimpsestlaw02_heads.f k).bind fun t154 => (some t154))))
def palimpsestlaw02_LebSizes.f (k : Nat) (a0 : Int) (a1 : Int) : Option (Bool) := (leb_Size.f a0).bind fun t143 => (if a0 ≤ a1 then ((leb_Size.f a1).bind fun t144 => (if t143 > t144 then (palimpsestlaw02_LebSizes.j0 k a0 t143 true) else ((leb_Put.f k a0).bind fun t145 => (if (t145.length : Int) = t143 then (if t143 < 1 then (palimpsestlaw02_LebSizes.j0 k a0 t143 true) else (palimpsestlaw02_LebSizes.j0 k a0 t143 (decide (t143 > 10)))) else (palimpsestlaw02_LebSizes.j0 k a0 t143 true))))) else ((leb_Put.f k a0).bind fun t148 => (if (t148.length : Int) = t143 then (if t143 < 1 then (palimpsestlaw02_LebSizes.j0 k a0 t143 true) else (palimpsestlaw02_LebSizes.j0 k a0 t143 (decide (t143 > 10)))) else (palimpsestlaw02_LebSizes.j0 k a0 t143 true))))
theorem palimpsestlaw02_LebSizes.mono_l : ∀ k, (∀ y0 y1 y2, LeO (palimpsestlaw02_LebSizes.j0 k y0 y1 y2) (palimpsestlaw02_LebSizes.j0 (k + 1) y0 y1 y2))
  | 0 => fun _ _ _ r h => by simp [palimpsestlaw02_LebSizes.j0] at h
  | k + 1 => by
    have ih0 := palimpsestlaw02_LebSizes.mono_l k
    · intro y0 y1 y2
      unfold palimpsestlaw02_LebSizes.j0
      repeat' first
      | (with_reducible exact ih0 _ _ _)
      | (with_reducible exact leb_Put.mono _ _)
      | (with_reducible exact palimpsestlaw02_heads.mono _)
      | (with_reducible exact LeO.refl _)
      | (with_reducible exact LeO.none _)
      | (with_reducible refine LeO.ite ?_ ?_)
      | (with_reducible refine LeO.bind ?_ (fun _ => ?_))
      | exact ih0 _ _ _
      | exact leb_Put.mono _ _
      | exact palimpsestlaw02_heads.mono _
      | exact LeO.none _
      | refine LeO.ite ?_ ?_
      | refine LeO.bind ?_ (fun _ => ?_)
theorem palimpsestlaw02_LebSizes.mono : ∀ a0 a1 k, LeO (palimpsestlaw02_LebSizes.f k a0 a1) (palimpsestlaw02_LebSizes.f (k + 1) a0 a1) := by
  intro a0 a1 k
  have ih0 := palimpsestlaw02_LebSizes.mono_l k
  unfold palimpsestlaw02_LebSizes.f
  repeat' first
      | (with_reducible exact ih0 _ _ _)
      | (with_reducible exact leb_Put.mono _ _)
      | (with_reducible exact palimpsestlaw02_heads.mono _)
      | (with_reducible exact LeO.refl _)
      | (with_reducible exact LeO.none _)
      | (with_reducible refine LeO.ite ?_ ?_)
      | (with_reducible refine LeO.bind ?_ (fun _ => ?_))
      | exact ih0 _ _ _
      | exact leb_Put.mono _ _
      | exact palimpsestlaw02_heads.mono _
      | exact LeO.none _
      | refine LeO.ite ?_ ?_
      | refine LeO.bind ?_ (fun _ => ?_)
set_option maxHeartbeats 8000000 in
set_option maxRecDepth 100000 in
theorem palimpsestlaw02_LebSizes.calls (k : Nat) (a0 : Int) (a1 : Int) (r : Bool) (w : World) (hG : Glob w) (h : palimpsestlaw02_LebSizes.f k a0 a1 = some r) :
    Calls Tryd.prog 3 #[.int .u64 a0, .int .u64 a1] w fun e w' => e = .returned (.bool r) ∧ Below w.heap.size w w' := by
  have HB := Aside0.mk (Below.refl w.heap.size w)
  have HG := Aside0.mk hG
  clear hG
  have H : ((leb_Size.f a0).bind fun t143 => (if a0 ≤ a1 then ((leb_Size.f a1).bind fun t144 => (if t143 > t144 then (palimpsestlaw02_LebSizes.j0 k a0 t143 true) else ((leb_Put.f k a0).bind fun t145 => (if (t145.length : Int) = t143 then (if t143 < 1 then (palimpsestlaw02_LebSizes.j0 k a0 t143 true) else (palimpsestlaw02_LebSizes.j0 k a0 t143 (decide (t143 > 10)))) else (palimpsestlaw02_LebSizes.j0 k a0 t143 true))))) else ((leb_Put.f k a0).bind fun t148 => (if (t148.length : Int) = t143 then (if t143 < 1 then (palimpsestlaw02_LebSizes.j0 k a0 t143 true) else (palimpsestlaw02_LebSizes.j0 k a0 t143 (decide (t143 > 10)))) else (palimpsestlaw02_LebSizes.j0 k a0 t143 true))))) = some r := h
  clear h
  replace H := Option.bind_eq_some_iff.mp H
  obtain ⟨t143, A30, H⟩ := H
  replace H : (if a0 ≤ a1 then ((leb_Size.f a1).bind fun t144 => (if t143 > t144 then (palimpsestlaw02_LebSizes.j0 k a0 t143 true) else ((leb_Put.f k a0).bind fun t145 => (if (t145.length : Int) = t143 then (if t143 < 1 then (palimpsestlaw02_LebSizes.j0 k a0 t143 true) else (palimpsestlaw02_LebSizes.j0 k a0 t143 (decide (t143 > 10)))) else (palimpsestlaw02_LebSizes.j0 k a0 t143 true))))) else ((leb_Put.f k a0).bind fun t148 => (if (t148.length : Int) = t143 then (if t143 < 1 then (palimpsestlaw02_LebSizes.j0 k a0 t143 true) else (palimpsestlaw02_LebSizes.j0 k a0 t143 (decide (t143 > 10)))) else (palimpsestlaw02_LebSizes.j0 k a0 t143 true)))) = some r := H
  have A3 := Aside0.mk A30
  clear A30
  have HC4 := Aside0.mk H
  clear H
  go_enter Tryd.func3, Tryd.ntmps3
  go_upto_region 2 with (first | ((with_reducible refine gate_callee (f := 8) rfl ?_); refine goesL_ (some 7) rfl rfl Tryd.func8 (by kernel_rfl) rfl #[.int .u64 a0] rfl (by (try simp only [List.map_toArray, List.map_cons, List.map_nil]); first | done | rfl | (simp only [List.length_drop, List.length_take]; rfl)) ?_; (with_reducible refine (leb_Size.calls a0 t143 _ A3.out).mono ?_); rintro e w5 ⟨rfl, hb⟩; refine ⟨_, rfl, ?_⟩; have n0_ := Aside0.mk (below_step (by repeat (first | (with_reducible first | exact HB.out | apply below_alloc | apply pw_below_drewN | apply below_drew1) | exact HB.out)) hb); clear HB; have HB := n0_; clear n0_; (try clear hb); (try clear hb2); (try clear hk); (try clear hi)))
  (try simp only [Act.put, List.setIfInBounds_toArray, List.set_cons_zero, List.set_cons_succ])
  go_cut [31] (fun v31 wc => ∃ (kq : Nat) (x31_3 : Bool), v31 = .bool x31_3 ∧ Aside0 (palimpsestlaw02_LebSizes.j0 kq a0 t143 x31_3 = some r) ∧ Aside0 (kq ≤ k) ∧ Aside0 (Below w.heap.size w wc))
  case first =>
    have H := HC4.out
    clear HC4
    by_cases c6 : a0 ≤ a1
    · rw [if_pos c6] at H
      have c6b0 : decide (a0 ≤ a1) = true := decide_eq_true c6
      clear c6
      (first | rw [c6b0] | (simp only [i64_w, i32_w]; rw [c6b0]) | skip)
      replace H := Option.bind_eq_some_iff.mp H
      obtain ⟨t144, A70, H⟩ := H
      replace H : (if t143 > t144 then (palimpsestlaw02_LebSizes.j0 k a0 t143 true) else ((leb_Put.f k a0).bind fun t145 => (if (t145.length : Int) = t143 then (if t143 < 1 then (palimpsestlaw02_LebSizes.j0 k a0 t143 true) else (palimpsestlaw02_LebSizes.j0 k a0 t143 (decide (t143 > 10)))) else (palimpsestlaw02_LebSizes.j0 k a0 t143 true)))) = some r := H
      have A7 := Aside0.mk A70
      clear A70
      by_cases c8 : t143 > t144
      · rw [if_pos c8] at H
        have c8b0 : decide (t144 < t143) = true := decide_eq_true c8
        clear c8
        have H' := Aside0.mk H
        clear H
        go_wp2_with (first | (go_at_call 8; (with_reducible refine (leb_Size.calls a1 t144 _ A7.out).mono ?_); rintro e w9 ⟨rfl, hb⟩; have n0_ := Aside0.mk (below_step (by repeat (first | (with_reducible first | exact HB.out | apply below_alloc | apply pw_below_drewN | apply below_drew1) | exact HB.out)) hb); clear HB; have HB := n0_; clear n0_; (try clear hb); (try clear hb2); (try clear hk); (try clear hi)))
        go_meet
        case rel => exact ⟨_, (true), (by first | rfl | (simp; done) | (simp [*]; done)), H', ⟨by first | omega | exact Nat.le_refl _⟩, ⟨by repeat (first | (with_reducible first | exact HB.out | apply below_alloc | apply pw_below_drewN | apply below_drew1) | exact HB.out)⟩⟩
      · rw [if_neg c8] at H
        have c8b0 : decide (t144 < t143) = false := decide_eq_false c8
        clear c8
        replace H := Option.bind_eq_some_iff.mp H
        obtain ⟨t145, A100, H⟩ := H
        replace H : (if (t145.length : Int) = t143 then (if t143 < 1 then (palimpsestlaw02_LebSizes.j0 k a0 t143 true) else (palimpsestlaw02_LebSizes.j0 k a0 t143 (decide (t143 > 10)))) else (palimpsestlaw02_LebSizes.j0 k a0 t143 true)) = some r := H
        have A10 := Aside0.mk A100
        clear A100
        by_cases c11 : (t145.length : Int) = t143
        · rw [if_pos c11] at H
          have c11b0 : ((t145.length : Int) == t143) = true := beq_iff_eq.mpr c11
          have c11b1 : ((t145.length : Int) != t143) = false := bne_eq_false_iff_eq.mpr c11
          clear c11
          by_cases c12 : t143 < 1
          · rw [if_pos c12] at H
            have c12b0 : decide (t143 < 1) = true := decide_eq_true c12
            clear c12
            have H' := Aside0.mk H
            clear H
            go_wp2_with (first | (go_at_call 8; (with_reducible refine (leb_Size.calls a1 t144 _ A7.out).mono ?_); rintro e w13 ⟨rfl, hb⟩; have n0_ := Aside0.mk (below_step (by repeat (first | (with_reducible first | exact HB.out | apply below_alloc | apply pw_below_drewN | apply below_drew1) | exact HB.out)) hb); clear HB; have HB := n0_; clear n0_; (try clear hb); (try clear hb2); (try clear hk); (try clear hi)) | (go_at_call 9; (with_reducible refine (leb_Put.calls k a0 t145 _ A10.out).mono ?_); rintro e w14 ⟨v146, rfl, ho0, hb⟩; have n0_ := Aside0.mk (Kd.R_lower ho0 (below_size (by repeat (first | (with_reducible first | exact HB.out | apply below_alloc | apply pw_below_drewN | apply below_drew1) | exact HB.out)))); have n1_ := Aside0.mk (below_step (by repeat (first | (with_reducible first | exact HB.out | apply below_alloc | apply pw_below_drewN | apply below_drew1) | exact HB.out)) hb); clear HB; have HO147 := n0_; have HB := n1_; clear n0_ n1_; (try clear hb); (try clear hb2); (try clear hk); (try clear hi); (try clear ho0); obtain ⟨Ao15, co15, eo15⟩ := Kd.R_slice HO147.out; subst eo15))
            go_meet
            case rel => exact ⟨_, (true), (by first | rfl | (simp; done) | (simp [*]; done)), H', ⟨by first | omega | exact Nat.le_refl _⟩, ⟨by repeat (first | (with_reducible first | exact HB.out | apply below_alloc | apply pw_below_drewN | apply below_drew1) | exact HB.out)⟩⟩
          · rw [if_neg c12] at H
            have c12b0 : decide (t143 < 1) = false := decide_eq_false c12
            clear c12
            have H' := Aside0.mk H
            clear H
            go_wp2_with (first | (go_at_call 8; (with_reducible refine (leb_Size.calls a1 t144 _ A7.out).mono ?_); rintro e w16 ⟨rfl, hb⟩; have n0_ := Aside0.mk (below_step (by repeat (first | (with_reducible first | exact HB.out | apply below_alloc | apply pw_below_drewN | apply below_drew1) | exact HB.out)) hb); clear HB; have HB := n0_; clear n0_; (try clear hb); (try clear hb2); (try clear hk); (try clear hi)) | (go_at_call 9; (with_reducible refine (leb_Put.calls k a0 t145 _ A10.out).mono ?_); rintro e w17 ⟨v146, rfl, ho0, hb⟩; have n0_ := Aside0.mk (Kd.R_lower ho0 (below_size (by repeat (first | (with_reducible first | exact HB.out | apply below_alloc | apply pw_below_drewN | apply below_drew1) | exact HB.out)))); have n1_ := Aside0.mk (below_step (by repeat (first | (with_reducible first | exact HB.out | apply below_alloc | apply pw_below_drewN | apply below_drew1) | exact HB.out)) hb); clear HB; have HO147 := n0_; have HB := n1_; clear n0_ n1_; (try clear hb); (try clear hb2); (try clear hk); (try clear hi); (try clear ho0); obtain ⟨Ao18, co18, eo18⟩ := Kd.R_slice HO147.out; subst eo18))
            go_meet
            case rel => exact ⟨_, (decide (t143 > 10)), (by first | rfl | (simp; done) | (simp [*]; done)), H', ⟨by first | omega | exact Nat.le_refl _⟩, ⟨by repeat (first | (with_reducible first | exact HB.out | apply below_alloc | apply pw_below_drewN | apply below_drew1) | exact HB.out)⟩⟩
        · rw [if_neg c11] at H
          have c11b0 : ((t145.length : Int) == t143) = false := beq_eq_false_iff_ne.mpr c11
          have c11b1 : ((t145.length : Int) != t143) = true := bne_iff_ne.mpr c11
          have H' := Aside0.mk H
          clear H
          go_wp2_with (first | (go_at_call 8; (with_reducible refine (leb_Size.calls a1 t144 _ A7.out).mono ?_); rintro e w19 ⟨rfl, hb⟩; have n0_ := Aside0.mk (below_step (by repeat (first | (with_reducible first | exact HB.out | apply below_alloc | apply pw_below_drewN | apply below_drew1) | exact HB.out)) hb); clear HB; have HB := n0_; clear n0_; (try clear hb); (try clear hb2); (try clear hk); (try clear hi)) | (go_at_call 9; (with_reducible refine (leb_Put.calls k a0 t145 _ A10.out).mono ?_); rintro e w20 ⟨v146, rfl, ho0, hb⟩; have n0_ := Aside0.mk (Kd.R_lower ho0 (below_size (by repeat (first | (with_reducible first | exact HB.out | apply below_alloc | apply pw_below_drewN | apply below_drew1) | exact HB.out)))); have n1_ := Aside0.mk (below_step (by repeat (first | (with_reducible first | exact HB.out | apply below_alloc | apply pw_below_drewN | apply below_drew1) | exact HB.out)) hb); clear HB; have HO147 := n0_; have HB := n1_; clear n0_ n1_; (try clear hb); (try clear hb2); (try clear hk); (try clear hi); (try clear ho0); obtain ⟨Ao21, co21, eo21⟩ := Kd.R_slice HO147.out; subst eo21))
          go_meet
          case rel => exact ⟨_, (true), (by first | rfl | (simp; done) | (simp [*]; done)), H', ⟨by first | omega | exact Nat.le_refl _⟩, ⟨by repeat (first | (with_reducible first | exact HB.out | apply below_alloc | apply pw_below_drewN | apply below_drew1) | exact HB.out)⟩⟩
    · rw [if_neg c6] at H
      have c6b0 : decide (a0 ≤ a1) = false := decide_eq_false c6
      clear c6
      (first | rw [c6b0] | (simp only [i64_w, i32_w]; rw [c6b0]) | skip)
      replace H := Option.bind_eq_some_iff.mp H
      obtain ⟨t148, A220, H⟩ := H
      replace H : (if (t148.length : Int) = t143 then (if t143 < 1 then (palimpsestlaw02_LebSizes.j0 k a0 t143 true) else (palimpsestlaw02_LebSizes.j0 k a0 t143 (decide (t143 > 10)))) else (palimpsestlaw02_LebSizes.j0 k a0 t143 true)) = some r := H
      have A22 := Aside0.mk A220
      clear A220
      by_cases c23 : (t148.length : Int) = t143
      · rw [if_pos c23] at H
        have c23b0 : ((t148.length : Int) == t143) = true := beq_iff_eq.mpr c23
        have c23b1 : ((t148.length : Int) != t143) = false := bne_eq_false_iff_eq.mpr c23
        clear c23
        by_cases c24 : t143 < 1
        · rw [if_pos c24] at H
          have c24b0 : decide (t143 < 1) = true := decide_eq_true c24
          clear c24
          have H' := Aside0.mk H
          clear H
          go_wp2_with (first | (go_at_call 9; (with_reducible refine (leb_Put.calls k a0 t148 _ A22.out).mono ?_); rintro e w25 ⟨v149, rfl, ho0, hb⟩; have n0_ := Aside0.mk (Kd.R_lower ho0 (below_size (by repeat (first | (with_reducible first | exact HB.out | apply below_alloc | apply pw_below_drewN | apply below_drew1) | exact HB.out)))); have n1_ := Aside0.mk (below_step (by repeat (first | (with_reducible first | exact HB.out | apply below_alloc | apply pw_below_drewN | apply below_drew1) | exact HB.out)) hb); clear HB; have HO150 := n0_; have HB := n1_; clear n0_ n1_; (try clear hb); (try clear hb2); (try clear hk); (try clear hi); (try clear ho0); obtain ⟨Ao26, co26, eo26⟩ := Kd.R_slice HO150.out; subst eo26))
          go_meet
          case rel => exact ⟨_, (true), (by first | rfl | (simp; done) | (simp [*]; done)), H', ⟨by first | omega | exact Nat.le_refl _⟩, ⟨by repeat (first | (with_reducible first | exact HB.out | apply below_alloc | apply pw_below_drewN | apply below_drew1) | exact HB.out)⟩⟩
        · rw [if_neg c24] at H
          have c24b0 : decide (t143 < 1) = false := decide_eq_false c24
          clear c24
          have H' := Aside0.mk H
          clear H
          go_wp2_with (first | (go_at_call 9; (with_reducible refine (leb_Put.calls k a0 t148 _ A22.out).mono ?_); rintro e w27 ⟨v149, rfl, ho0, hb⟩; have n0_ := Aside0.mk (Kd.R_lower ho0 (below_size (by repeat (first | (with_reducible first | exact HB.out | apply below_alloc | apply pw_below_drewN | apply below_drew1) | exact HB.out)))); have n1_ := Aside0.mk (below_step (by repeat (first | (with_reducible first | exact HB.out | apply below_alloc | apply pw_below_drewN | apply below_drew1) | exact HB.out)) hb); clear HB; have HO150 := n0_; have HB := n1_; clear n0_ n1_; (try clear hb); (try clear hb2); (try clear hk); (try clear hi); (try clear ho0); obtain ⟨Ao28, co28, eo28⟩ := Kd.R_slice HO150.out; subst eo28))
          go_meet
          case rel => exact ⟨_, (decide (t143 > 10)), (by first | rfl | (simp; done) | (simp [*]; done)), H', ⟨by first | omega | exact Nat.le_refl _⟩, ⟨by repeat (first | (with_reducible first | exact HB.out | apply below_alloc | apply pw_below_drewN | apply below_drew1) | exact HB.out)⟩⟩
      · rw [if_neg c23] at H
        have c23b0 : ((t148.length : Int) == t143) = false := beq_eq_false_iff_ne.mpr c23
        have c23b1 : ((t148.length : Int) != t143) = true := bne_iff_ne.mpr c23
        have H' := Aside0.mk H
        clear H
        go_wp2_with (first | (go_at_call 9; (with_reducible refine (leb_Put.calls k a0 t148 _ A22.out).mono ?_); rintro e w29 ⟨v149, rfl, ho0, hb⟩; have n0_ := Aside0.mk (Kd.R_lower ho0 (below_size (by repeat (first | (with_reducible first | exact HB.out | apply below_alloc | apply pw_below_drewN | apply below_drew1) | exact HB.out)))); have n1_ := Aside0.mk (below_step (by repeat (first | (with_reducible first | exact HB.out | apply below_alloc | apply pw_below_drewN | apply below_drew1) | exact HB.out)) hb); clear HB; have HO150 := n0_; have HB := n1_; clear n0_ n1_; (try clear hb); (try clear hb2); (try clear hk); (try clear hi); (try clear ho0); obtain ⟨Ao30, co30, eo30⟩ := Kd.R_slice HO150.out; subst eo30))
        go_meet
        case rel => exact ⟨_, (true), (by first | rfl | (simp; done) | (simp [*]; done)), H', ⟨by first | omega | exact Nat.le_refl _⟩, ⟨by repeat (first | (with_reducible first | exact HB.out | apply below_alloc | apply pw_below_drewN | apply below_drew1) | exact HB.out)⟩⟩
  case rest =>
    clear HC4
    try clear c1
    try clear c2
    try clear p2
    try clear c3
    try clear c6
    try clear c6b0
    try clear c8
    try clear c8b0
    try clear c11
    try clear c11b0
    try clear c11b1
    try clear c12
    try clear c12b0
    try clear c23
    try clear c23b0
    try clear c23b1
    try clear c24
    try clear c24b0
    obtain ⟨kq, x31_3, rfl, HA, HJ3, HB⟩ := hcut
    cases kq with
    | zero => exact absurd HA.out (by simp [palimpsestlaw02_LebSizes.j0])
    | succ kj3 =>
      have H := HA.out
      clear HA
      simp only [palimpsestlaw02_LebSizes.j0] at H
      by_cases c31 : x31_3 = true
      · subst c31
        have H1 : (some false) = some r := by rw [if_pos rfl] at H; exact H
        clear H
        have H := H1
        clear H1
        obtain rfl := Option.some.inj H
        go_wp2
        go_ret
        exact ⟨by first | rfl | (simp [errW_none, errW_some] <;> rfl) | (simp [*, errW_none, errW_some] <;> rfl), by repeat (first | (with_reducible first | exact HB.out | apply below_alloc | apply pw_below_drewN | apply below_drew1) | exact HB.out)⟩
      · replace c31 := Bool.eq_false_iff.mpr c31
        subst c31
        have H1 : (if t143 < 10 then (if 0 ≤ (IntKind.u64.wrap (wrap64 (7 * t143))) then (if (shr .u64 a0 (IntKind.u64.wrap (wrap64 (7 * t143)))) = 0 then (if t143 > 1 then (if 0 ≤ (IntKind.u64.wrap (wrap64 ((wrap64 (7 * t143)) - 7))) then (if (shr .u64 a0 (IntKind.u64.wrap (wrap64 ((wrap64 (7 * t143)) - 7)))) = 0 then (some false) else ((palimpsestlaw02_heads.f kj3).bind fun t151 => (some t151))) else (none)) else ((palimpsestlaw02_heads.f kj3).bind fun t152 => (some t152))) else (some false)) else (none)) else (if t143 > 1 then (if 0 ≤ (IntKind.u64.wrap (wrap64 ((wrap64 (7 * t143)) - 7))) then (if (shr .u64 a0 (IntKind.u64.wrap (wrap64 ((wrap64 (7 * t143)) - 7)))) = 0 then (some false) else ((palimpsestlaw02_heads.f kj3).bind fun t153 => (some t153))) else (none)) else ((palimpsestlaw02_heads.f kj3).bind fun t154 => (some t154)))) = some r := by rw [if_neg (show ¬ (false = true) by decide)] at H; exact H
        clear H
        have H := H1
        clear H1
        by_cases c32 : t143 < 10
        · rw [if_pos c32] at H
          have c32b0 : decide (t143 < 10) = true := decide_eq_true c32
          clear c32
          obtain ⟨ji33, hji33⟩ : ∃ j_ : Int, (IntKind.u64.wrap (wrap64 (7 * t143))) = j_ := ⟨_, rfl⟩
          replace H : (if 0 ≤ (ji33) then (if (shr .u64 a0 (ji33)) = 0 then (if t143 > 1 then (if 0 ≤ (IntKind.u64.wrap (wrap64 ((wrap64 (7 * t143)) - 7))) then (if (shr .u64 a0 (IntKind.u64.wrap (wrap64 ((wrap64 (7 * t143)) - 7)))) = 0 then (some false) else ((palimpsestlaw02_heads.f kj3).bind fun t151 => (some t151))) else (none)) else ((palimpsestlaw02_heads.f kj3).bind fun t152 => (some t152))) else (some false)) else (none)) = some r := by first | (rw [hji33] at H; exact H) | (simp only [hji33] at H ⊢; exact H)
          by_cases c34 : 0 ≤ (ji33)
          · rw [if_pos c34] at H
            have c34b0 := eq_true c34
            have c34b1 : decide (0 ≤ (ji33)) = true := decide_eq_true c34
            clear c34
            obtain ⟨ji35, hji35⟩ : ∃ j_ : Int, (shr .u64 a0 (ji33)) = j_ := ⟨_, rfl⟩
            replace H : (if (ji35) = 0 then (if t143 > 1 then (if 0 ≤ (IntKind.u64.wrap (wrap64 ((wrap64 (7 * t143)) - 7))) then (if (shr .u64 a0 (IntKind.u64.wrap (wrap64 ((wrap64 (7 * t143)) - 7)))) = 0 then (some false) else ((palimpsestlaw02_heads.f kj3).bind fun t151 => (some t151))) else (none)) else ((palimpsestlaw02_heads.f kj3).bind fun t152 => (some t152))) else (some false)) = some r := by first | (rw [hji35] at H; exact H) | (simp only [hji35] at H ⊢; exact H)
            have hji35_ : (a0 / 2 ^ min (ji33).toNat 64) = ji35 := hji35
            have hji35z : (ji33) ≤ 64 → (a0 / 2 ^ (ji33).toNat) = ji35 := shr_small hji35
            by_cases c36 : (ji35) = 0
            · rw [if_pos c36] at H
              have c36b0 : ((ji35) == 0) = true := beq_iff_eq.mpr c36
              have c36b1 : ((ji35) != 0) = false := bne_eq_false_iff_eq.mpr c36
              clear c36
              by_cases c37 : t143 > 1
              · rw [if_pos c37] at H
                have c37b0 : decide (1 < t143) = true := decide_eq_true c37
                clear c37
                obtain ⟨ji38, hji38⟩ : ∃ j_ : Int, (IntKind.u64.wrap (wrap64 ((wrap64 (7 * t143)) - 7))) = j_ := ⟨_, rfl⟩
                replace H : (if 0 ≤ (ji38) then (if (shr .u64 a0 (ji38)) = 0 then (some false) else ((palimpsestlaw02_heads.f kj3).bind fun t151 => (some t151))) else (none)) = some r := by first | (rw [hji38] at H; exact H) | (simp only [hji38] at H ⊢; exact H)
                by_cases c39 : 0 ≤ (ji38)
                · rw [if_pos c39] at H
                  have c39b0 := eq_true c39
                  have c39b1 : decide (0 ≤ (ji38)) = true := decide_eq_true c39
                  clear c39
                  obtain ⟨ji40, hji40⟩ : ∃ j_ : Int, (shr .u64 a0 (ji38)) = j_ := ⟨_, rfl⟩
                  replace H : (if (ji40) = 0 then (some false) else ((palimpsestlaw02_heads.f kj3).bind fun t151 => (some t151))) = some r := by first | (rw [hji40] at H; exact H) | (simp only [hji40] at H ⊢; exact H)
                  have hji40_ : (a0 / 2 ^ min (ji38).toNat 64) = ji40 := hji40
                  have hji40z : (ji38) ≤ 64 → (a0 / 2 ^ (ji38).toNat) = ji40 := shr_small hji40
                  by_cases c41 : (ji40) = 0
                  · rw [if_pos c41] at H
                    have c41b0 : ((ji40) == 0) = true := beq_iff_eq.mpr c41
                    have c41b1 : ((ji40) != 0) = false := bne_eq_false_iff_eq.mpr c41
                    clear c41
                    obtain rfl := Option.some.inj H
                    go_wp2
                    go_ret
                    exact ⟨by first | rfl | (simp [errW_none, errW_some] <;> rfl) | (simp only [← hji33, ← hji35, ← hji38, ← hji40]; first | rfl | (simp [errW_none, errW_some] <;> rfl)) | (simp [*, errW_none, errW_some] <;> rfl), by repeat (first | (with_reducible first | exact HB.out | apply below_alloc | apply pw_below_drewN | apply below_drew1) | exact HB.out)⟩
                  · rw [if_neg c41] at H
                    have c41b0 : ((ji40) == 0) = false := beq_eq_false_iff_ne.mpr c41
                    have c41b1 : ((ji40) != 0) = true := bne_iff_ne.mpr c41
                    replace H := Option.bind_eq_some_iff.mp H
                    obtain ⟨t151, A420, H⟩ := H
                    replace H : (some t151) = some r := H
                    have A42 := Aside0.mk A420
                    clear A420
                    obtain rfl := Option.some.inj H
                    go_wp2_with (first | ((with_reducible refine gate_callee (f := 10) rfl ?_); refine goesL_ (some 55) rfl rfl Tryd.func10 (by kernel_rfl) rfl #[] rfl (by (try simp only [List.map_toArray, List.map_cons, List.map_nil]); first | done | rfl | (simp only [List.length_drop, List.length_take]; rfl)) ?_; (with_reducible refine (palimpsestlaw02_heads.calls kj3  t151 _ ?side1 A42.out).mono ?_); (case side1 => exact Glob.below HG.out (by repeat (first | (with_reducible first | exact HB.out | apply below_alloc | apply pw_below_drewN | apply below_drew1) | exact HB.out))); rintro e w43 ⟨rfl, hb⟩; refine ⟨_, rfl, ?_⟩; have n0_ := Aside0.mk (below_step (by repeat (first | (with_reducible first | exact HB.out | apply below_alloc | apply pw_below_drewN | apply below_drew1) | exact HB.out)) hb); clear HB; have HB := n0_; clear n0_; (try clear hb); (try clear hb2); (try clear hk); (try clear hi)))
                    go_ret
                    exact ⟨by first | rfl | (simp [errW_none, errW_some] <;> rfl) | (simp only [← hji33, ← hji35, ← hji38, ← hji40]; first | rfl | (simp [errW_none, errW_some] <;> rfl)) | (simp [*, errW_none, errW_some] <;> rfl), by repeat (first | (with_reducible first | exact HB.out | apply below_alloc | apply pw_below_drewN | apply below_drew1) | exact HB.out)⟩
                · rw [if_neg c39] at H
                  exact absurd H (by simp)
              · rw [if_neg c37] at H
                have c37b0 : decide (1 < t143) = false := decide_eq_false c37
                clear c37
                replace H := Option.bind_eq_some_iff.mp H
                obtain ⟨t152, A440, H⟩ := H
                replace H : (some t152) = some r := H
                have A44 := Aside0.mk A440
                clear A440
                obtain rfl := Option.some.inj H
                go_wp2_with (first | ((with_reducible refine gate_callee (f := 10) rfl ?_); refine goesL_ (some 55) rfl rfl Tryd.func10 (by kernel_rfl) rfl #[] rfl (by (try simp only [List.map_toArray, List.map_cons, List.map_nil]); first | done | rfl | (simp only [List.length_drop, List.length_take]; rfl)) ?_; (with_reducible refine (palimpsestlaw02_heads.calls kj3  t152 _ ?side1 A44.out).mono ?_); (case side1 => exact Glob.below HG.out (by repeat (first | (with_reducible first | exact HB.out | apply below_alloc | apply pw_below_drewN | apply below_drew1) | exact HB.out))); rintro e w45 ⟨rfl, hb⟩; refine ⟨_, rfl, ?_⟩; have n0_ := Aside0.mk (below_step (by repeat (first | (with_reducible first | exact HB.out | apply below_alloc | apply pw_below_drewN | apply below_drew1) | exact HB.out)) hb); clear HB; have HB := n0_; clear n0_; (try clear hb); (try clear hb2); (try clear hk); (try clear hi)))
                go_ret
                exact ⟨by first | rfl | (simp [errW_none, errW_some] <;> rfl) | (simp only [← hji33, ← hji35]; first | rfl | (simp [errW_none, errW_some] <;> rfl)) | (simp [*, errW_none, errW_some] <;> rfl), by repeat (first | (with_reducible first | exact HB.out | apply below_alloc | apply pw_below_drewN | apply below_drew1) | exact HB.out)⟩
            · rw [if_neg c36] at H
              have c36b0 : ((ji35) == 0) = false := beq_eq_false_iff_ne.mpr c36
              have c36b1 : ((ji35) != 0) = true := bne_iff_ne.mpr c36
              obtain rfl := Option.some.inj H
              go_wp2
              go_ret
              exact ⟨by first | rfl | (simp [errW_none, errW_some] <;> rfl) | (simp only [← hji33, ← hji35]; first | rfl | (simp [errW_none, errW_some] <;> rfl)) | (simp [*, errW_none, errW_some] <;> rfl), by repeat (first | (with_reducible first | exact HB.out | apply below_alloc | apply pw_below_drewN | apply below_drew1) | exact HB.out)⟩
          · rw [if_neg c34] at H
            exact absurd H (by simp)
        · rw [if_neg c32] at H
          have c32b0 : decide (t143 < 10) = false := decide_eq_false c32
          clear c32
          by_cases c46 : t143 > 1
          · rw [if_pos c46] at H
            have c46b0 : decide (1 < t143) = true := decide_eq_true c46
            clear c46
            obtain ⟨ji47, hji47⟩ : ∃ j_ : Int, (IntKind.u64.wrap (wrap64 ((wrap64 (7 * t143)) - 7))) = j_ := ⟨_, rfl⟩
            replace H : (if 0 ≤ (ji47) then (if (shr .u64 a0 (ji47)) = 0 then (some false) else ((palimpsestlaw02_heads.f kj3).bind fun t153 => (some t153))) else (none)) = some r := by first | (rw [hji47] at H; exact H) | (simp only [hji47] at H ⊢; exact H)
            by_cases c48 : 0 ≤ (ji47)
            · rw [if_pos c48] at H
              have c48b0 := eq_true c48
              have c48b1 : decide (0 ≤ (ji47)) = true := decide_eq_true c48
              clear c48
              obtain ⟨ji49, hji49⟩ : ∃ j_ : Int, (shr .u64 a0 (ji47)) = j_ := ⟨_, rfl⟩
              replace H : (if (ji49) = 0 then (some false) else ((palimpsestlaw02_heads.f kj3).bind fun t153 => (some t153))) = some r := by first | (rw [hji49] at H; exact H) | (simp only [hji49] at H ⊢; exact H)
              have hji49_ : (a0 / 2 ^ min (ji47).toNat 64) = ji49 := hji49
              have hji49z : (ji47) ≤ 64 → (a0 / 2 ^ (ji47).toNat) = ji49 := shr_small hji49
              by_cases c50 : (ji49) = 0
              · rw [if_pos c50] at H
                have c50b0 : ((ji49) == 0) = true := beq_iff_eq.mpr c50
                have c50b1 : ((ji49) != 0) = false := bne_eq_false_iff_eq.mpr c50
                clear c50
                obtain rfl := Option.some.inj H
                go_wp2
                go_ret
                exact ⟨by first | rfl | (simp [errW_none, errW_some] <;> rfl) | (simp only [← hji47, ← hji49]; first | rfl | (simp [errW_none, errW_some] <;> rfl)) | (simp [*, errW_none, errW_some] <;> rfl), by repeat (first | (with_reducible first | exact HB.out | apply below_alloc | apply pw_below_drewN | apply below_drew1) | exact HB.out)⟩
              · rw [if_neg c50] at H
                have c50b0 : ((ji49) == 0) = false := beq_eq_false_iff_ne.mpr c50
                have c50b1 : ((ji49) != 0) = true := bne_iff_ne.mpr c50
                replace H := Option.bind_eq_some_iff.mp H
                obtain ⟨t153, A510, H⟩ := H
                replace H : (some t153) = some r := H
                have A51 := Aside0.mk A510
                clear A510
                obtain rfl := Option.some.inj H
                go_wp2_with (first | ((with_reducible refine gate_callee (f := 10) rfl ?_); refine goesL_ (some 55) rfl rfl Tryd.func10 (by kernel_rfl) rfl #[] rfl (by (try simp only [List.map_toArray, List.map_cons, List.map_nil]); first | done | rfl | (simp only [List.length_drop, List.length_take]; rfl)) ?_; (with_reducible refine (palimpsestlaw02_heads.calls kj3  t153 _ ?side1 A51.out).mono ?_); (case side1 => exact Glob.below HG.out (by repeat (first | (with_reducible first | exact HB.out | apply below_alloc | apply pw_below_drewN | apply below_drew1) | exact HB.out))); rintro e w52 ⟨rfl, hb⟩; refine ⟨_, rfl, ?_⟩; have n0_ := Aside0.mk (below_step (by repeat (first | (with_reducible first | exact HB.out | apply below_alloc | apply pw_below_drewN | apply below_drew1) | exact HB.out)) hb); clear HB; have HB := n0_; clear n0_; (try clear hb); (try clear hb2); (try clear hk); (try clear hi)))
                go_ret
                exact ⟨by first | rfl | (simp [errW_none, errW_some] <;> rfl) | (simp only [← hji47, ← hji49]; first | rfl | (simp [errW_none, errW_some] <;> rfl)) | (simp [*, errW_none, errW_some] <;> rfl), by repeat (first | (with_reducible first | exact HB.out | apply below_alloc | apply pw_below_drewN | apply below_drew1) | exact HB.out)⟩
            · rw [if_neg c48] at H
              exact absurd H (by simp)
          · rw [if_neg c46] at H
            have c46b0 : decide (1 < t143) = false := decide_eq_false c46
            clear c46
            replace H := Option.bind_eq_some_iff.mp H
            obtain ⟨t154, A530, H⟩ := H
            replace H : (some t154) = some r := H
            have A53 := Aside0.mk A530
            clear A530
            obtain rfl := Option.some.inj H
            go_wp2_with (first | ((with_reducible refine gate_callee (f := 10) rfl ?_); refine goesL_ (some 55) rfl rfl Tryd.func10 (by kernel_rfl) rfl #[] rfl (by (try simp only [List.map_toArray, List.map_cons, List.map_nil]); first | done | rfl | (simp only [List.length_drop, List.length_take]; rfl)) ?_; (with_reducible refine (palimpsestlaw02_heads.calls kj3  t154 _ ?side1 A53.out).mono ?_); (case side1 => exact Glob.below HG.out (by repeat (first | (with_reducible first | exact HB.out | apply below_alloc | apply pw_below_drewN | apply below_drew1) | exact HB.out))); rintro e w54 ⟨rfl, hb⟩; refine ⟨_, rfl, ?_⟩; have n0_ := Aside0.mk (below_step (by repeat (first | (with_reducible first | exact HB.out | apply below_alloc | apply pw_below_drewN | apply below_drew1) | exact HB.out)) hb); clear HB; have HB := n0_; clear n0_; (try clear hb); (try clear hb2); (try clear hk); (try clear hi)))
            go_ret
            exact ⟨by first | rfl | (simp [errW_none, errW_some] <;> rfl) | (simp [*, errW_none, errW_some] <;> rfl), by repeat (first | (with_reducible first | exact HB.out | apply below_alloc | apply pw_below_drewN | apply below_drew1) | exact HB.out)⟩

/-- THE ONE PURE STATEMENT of palimpsestlaw02_LebSizes: yours. -/
def palimpsestlaw02_LebSizes.Pure : Prop := ∀ (a0 : Int) (a1 : Int), (okInt .u64) a0 → (okInt .u64) a1 → ∃ k, palimpsestlaw02_LebSizes.f k a0 a1 = some true

/-! ### palimpsestlaw02_LebCut: function 4 -/
def palimpsestlaw02_LebCut.j0 : Nat → Int → List Int → Bool → Option (Bool)
  | 0, _, _, _ => none
  | k + 1, x1, x5, x18 => if x18 = true then ((palimpsestlaw02_heads.f k).bind fun t158 => (some t158)) else (if 0 ≤ x1 then (if x1 ≤ (x5.length : Int) then ((leb_Get.f k (x5.take (x1 : Int).toNat)).bind fun bt163 => (if bt163.2.2 = 20 then (if bt163.2.1 = 0 then ((palimpsestlaw02_heads.f k).bind fun t166 => (some t166)) else (some false)) else (some false))) else (none)) else (none))
def palimpsestlaw02_LebCut.f (k : Nat) (a0 : Int) (a1 : Int) : Option (Bool) := (leb_Put.f k a0).bind fun t155 => (if a1 < 0 then (palimpsestlaw02_LebCut.j0 k a1 t155 true) else (palimpsestlaw02_LebCut.j0 k a1 t155 (decide (a1 ≥ (t155.length : Int)))))
theorem palimpsestlaw02_LebCut.mono_l : ∀ k, (∀ y0 y1 y2, LeO (palimpsestlaw02_LebCut.j0 k y0 y1 y2) (palimpsestlaw02_LebCut.j0 (k + 1) y0 y1 y2))
  | 0 => fun _ _ _ r h => by simp [palimpsestlaw02_LebCut.j0] at h
  | k + 1 => by
    have ih0 := palimpsestlaw02_LebCut.mono_l k
    · intro y0 y1 y2
      unfold palimpsestlaw02_LebCut.j0
      repeat' first
      | (with_reducible exact ih0 _ _ _)
      | (with_reducible exact leb_Get.mono _ _)
      | (with_reducible exact leb_Put.mono _ _)
      | (with_reducible exact palimpsestlaw02_heads.mono _)
      | (with_reducible exact LeO.refl _)
      | (with_reducible exact LeO.none _)
      | (with_reducible refine LeO.ite ?_ ?_)
      | (with_reducible refine LeO.bind ?_ (fun _ => ?_))
      | exact ih0 _ _ _
      | exact leb_Get.mono _ _
      | exact leb_Put.mono _ _
      | exact palimpsestlaw02_heads.mono _
      | exact LeO.none _
      | refine LeO.ite ?_ ?_
      | refine LeO.bind ?_ (fun _ => ?_)
theorem palimpsestlaw02_LebCut.mono : ∀ a0 a1 k, LeO (palimpsestlaw02_LebCut.f k a0 a1) (palimpsestlaw02_LebCut.f (k + 1) a0 a1) := by
  intro a0 a1 k
  have ih0 := palimpsestlaw02_LebCut.mono_l k
  unfold palimpsestlaw02_LebCut.f
  repeat' first
      | (with_reducible exact ih0 _ _ _)
      | (with_reducible exact leb_Get.mono _ _)
      | (with_reducible exact leb_Put.mono _ _)
      | (with_reducible exact palimpsestlaw02_heads.mono _)
      | (with_reducible exact LeO.refl _)
      | (with_reducible exact LeO.none _)
      | (with_reducible refine LeO.ite ?_ ?_)
      | (with_reducible refine LeO.bind ?_ (fun _ => ?_))
      | exact ih0 _ _ _
      | exact leb_Get.mono _ _
      | exact leb_Put.mono _ _
      | exact palimpsestlaw02_heads.mono _
      | exact LeO.none _
      | refine LeO.ite ?_ ?_
      | refine LeO.bind ?_ (fun _ => ?_)
set_option maxHeartbeats 8000000 in
set_option maxRecDepth 100000 in
theorem palimpsestlaw02_LebCut.calls (k : Nat) (a0 : Int) (a1 : Int) (r : Bool) (w : World) (hG : Glob w) (h : palimpsestlaw02_LebCut.f k a0 a1 = some r) :
    Calls Tryd.prog 4 #[.int .u64 a0, .int .i64 a1] w fun e w' => e = .returned (.bool r) ∧ Below w.heap.size w w' := by
  have HB := Aside0.mk (Below.refl w.heap.size w)
  have HG := Aside0.mk hG
  clear hG
  have H : ((leb_Put.f k a0).bind fun t155 => (if a1 < 0 then (palimpsestlaw02_LebCut.j0 k a1 t155 true) else (palimpsestlaw02_LebCut.j0 k a1 t155 (decide (a1 ≥ (t155.length : Int)))))) = some r := h
  clear h
  replace H := Option.bind_eq_some_iff.mp H
  obtain ⟨t155, A30, H⟩ := H
  replace H : (if a1 < 0 then (palimpsestlaw02_LebCut.j0 k a1 t155 true) else (palimpsestlaw02_LebCut.j0 k a1 t155 (decide (a1 ≥ (t155.length : Int))))) = some r := H
  have A3 := Aside0.mk A30
  clear A30
  have HC4 := Aside0.mk H
  clear H
  go_enter Tryd.func4, Tryd.ntmps4
  go_upto_region 2 with (first | ((with_reducible refine gate_callee (f := 9) rfl ?_); refine goesL_ (some 10) rfl rfl Tryd.func9 (by kernel_rfl) rfl #[.int .u64 a0] rfl (by (try simp only [List.map_toArray, List.map_cons, List.map_nil]); first | done | rfl | (simp only [List.length_drop, List.length_take]; rfl)) ?_; (with_reducible refine (leb_Put.calls k a0 t155 _ A3.out).mono ?_); rintro e w5 ⟨v156, rfl, ho0, hb⟩; refine ⟨_, rfl, ?_⟩; have n0_ := Aside0.mk (Kd.R_lower ho0 (below_size (by repeat (first | (with_reducible first | exact HB.out | apply below_alloc | apply pw_below_drewN | apply below_drew1) | exact HB.out)))); have n1_ := Aside0.mk (below_step (by repeat (first | (with_reducible first | exact HB.out | apply below_alloc | apply pw_below_drewN | apply below_drew1) | exact HB.out)) hb); clear HB; have HO157 := n0_; have HB := n1_; clear n0_ n1_; (try clear hb); (try clear hb2); (try clear hk); (try clear hi); (try clear ho0)))
  (try simp only [Act.put, List.setIfInBounds_toArray, List.set_cons_zero, List.set_cons_succ])
  go_cut [18] (fun v18 wc => ∃ (kq : Nat) (x18_3 : Bool), v18 = .bool x18_3 ∧ Aside0 (palimpsestlaw02_LebCut.j0 kq a1 t155 x18_3 = some r) ∧ Aside0 (kq ≤ k) ∧ Aside0 (Kd.R (Kd.int .u8) 5 wc w.heap.size (fun _ => True) v156 t155) ∧ Aside0 (Below w.heap.size w wc))
  case first =>
    have H := HC4.out
    clear HC4
    by_cases c6 : a1 < 0
    · rw [if_pos c6] at H
      have c6b0 : decide (a1 < 0) = true := decide_eq_true c6
      clear c6
      (first | rw [c6b0] | (simp only [i64_w, i32_w]; rw [c6b0]) | skip)
      have H' := Aside0.mk H
      clear H
      go_wp2
      go_meet
      case rel => exact ⟨_, (true), (by first | rfl | (simp; done) | (simp [*]; done)), H', ⟨by first | omega | exact Nat.le_refl _⟩, ⟨by (with_reducible repeat (first | apply Kd.R_alloc | apply Kd.R_drewN | apply Kd.R_drew)); exact HO157.out⟩, ⟨by repeat (first | (with_reducible first | exact HB.out | apply below_alloc | apply pw_below_drewN | apply below_drew1) | exact HB.out)⟩⟩
    · rw [if_neg c6] at H
      have c6b0 : decide (a1 < 0) = false := decide_eq_false c6
      clear c6
      (first | rw [c6b0] | (simp only [i64_w, i32_w]; rw [c6b0]) | skip)
      have H' := Aside0.mk H
      clear H
      obtain ⟨Ao7, co7, eo7⟩ := Kd.R_slice HO157.out
      subst eo7
      go_wp2
      go_meet
      case rel => exact ⟨_, (decide (a1 ≥ (t155.length : Int))), (by first | rfl | (simp; done) | (simp [*]; done)), H', ⟨by first | omega | exact Nat.le_refl _⟩, ⟨by (with_reducible repeat (first | apply Kd.R_alloc | apply Kd.R_drewN | apply Kd.R_drew)); exact HO157.out⟩, ⟨by repeat (first | (with_reducible first | exact HB.out | apply below_alloc | apply pw_below_drewN | apply below_drew1) | exact HB.out)⟩⟩
  case rest =>
    clear HC4
    try clear p2
    try clear c4
    try clear c6
    try clear c6b0
    obtain ⟨kq, x18_3, rfl, HA, HJ3, HO_5, HB⟩ := hcut
    cases kq with
    | zero => exact absurd HA.out (by simp [palimpsestlaw02_LebCut.j0])
    | succ kj3 =>
      have H := HA.out
      clear HA
      simp only [palimpsestlaw02_LebCut.j0] at H
      by_cases c8 : x18_3 = true
      · subst c8
        have H1 : ((palimpsestlaw02_heads.f kj3).bind fun t158 => (some t158)) = some r := by rw [if_pos rfl] at H; exact H
        clear H
        have H := H1
        clear H1
        replace H := Option.bind_eq_some_iff.mp H
        obtain ⟨t158, A90, H⟩ := H
        replace H : (some t158) = some r := H
        have A9 := Aside0.mk A90
        clear A90
        obtain rfl := Option.some.inj H
        go_wp2_with (first | ((with_reducible refine gate_callee (f := 10) rfl ?_); refine goesL_ (some 19) rfl rfl Tryd.func10 (by kernel_rfl) rfl #[] rfl (by (try simp only [List.map_toArray, List.map_cons, List.map_nil]); first | done | rfl | (simp only [List.length_drop, List.length_take]; rfl)) ?_; (with_reducible refine (palimpsestlaw02_heads.calls kj3  t158 _ ?side1 A9.out).mono ?_); (case side1 => exact Glob.below HG.out (by repeat (first | (with_reducible first | exact HB.out | apply below_alloc | apply pw_below_drewN | apply below_drew1) | exact HB.out))); rintro e w10 ⟨rfl, hb⟩; refine ⟨_, rfl, ?_⟩; have n0_ := Aside0.mk (Kd.R_below (by (with_reducible repeat (first | apply Kd.R_alloc | apply Kd.R_drewN | apply Kd.R_drew)); exact HO_5.out) hb); have n1_ := Aside0.mk (below_step (by repeat (first | (with_reducible first | exact HB.out | apply below_alloc | apply pw_below_drewN | apply below_drew1) | exact HB.out)) hb); clear HO_5; clear HB; have HO_5 := n0_; have HB := n1_; clear n0_ n1_; (try clear hb); (try clear hb2); (try clear hk); (try clear hi)))
        go_ret
        exact ⟨by first | rfl | (simp [errW_none, errW_some] <;> rfl) | (simp [*, errW_none, errW_some] <;> rfl), by repeat (first | (with_reducible first | exact HB.out | apply below_alloc | apply pw_below_drewN | apply below_drew1) | exact HB.out)⟩
      · replace c8 := Bool.eq_false_iff.mpr c8
        subst c8
        have H1 : (if 0 ≤ a1 then (if a1 ≤ (t155.length : Int) then ((leb_Get.f kj3 (t155.take (a1 : Int).toNat)).bind fun bt163 => (if bt163.2.2 = 20 then (if bt163.2.1 = 0 then ((palimpsestlaw02_heads.f kj3).bind fun t166 => (some t166)) else (some false)) else (some false))) else (none)) else (none)) = some r := by rw [if_neg (show ¬ (false = true) by decide)] at H; exact H
        clear H
        have H := H1
        clear H1
        by_cases c11 : 0 ≤ a1
        · rw [if_pos c11] at H
          have c11b0 := eq_true c11
          have c11b1 : decide (0 ≤ a1) = true := decide_eq_true c11
          clear c11
          by_cases c12 : a1 ≤ (t155.length : Int)
          · rw [if_pos c12] at H
            have c12b0 := eq_true c12
            have c12b1 : decide (a1 ≤ (t155.length : Int)) = true := decide_eq_true c12
            clear c12
            obtain ⟨y159, hy159⟩ : ∃ y_ : List Int, y_ = (t155.take (a1 : Int).toNat) := ⟨_, rfl⟩
            replace H : ((leb_Get.f kj3 y159).bind fun bt163 => (if bt163.2.2 = 20 then (if bt163.2.1 = 0 then ((palimpsestlaw02_heads.f kj3).bind fun t166 => (some t166)) else (some false)) else (some false))) = some r := by first | (rw [hy159]; with_reducible exact H) | (have H2_ := (Option.bind_some _ _).symm.trans H; rw [hy159]; with_reducible exact H2_) | (have H2_ := (Option.bind_some _ _).symm.trans H; with_reducible exact H2_) | with_reducible exact H | (rw [hy159]; exact H) | exact H
            have Ny159 := Aside0.mk hy159
            clear hy159
            replace H := Option.bind_eq_some_iff.mp H
            obtain ⟨⟨t163, t164, t165⟩, A130, H⟩ := H
            replace H : (if t165 = 20 then (if t164 = 0 then ((palimpsestlaw02_heads.f kj3).bind fun t166 => (some t166)) else (some false)) else (some false)) = some r := H
            have A13 := Aside0.mk A130
            clear A130
            by_cases c14 : t165 = 20
            · rw [if_pos c14] at H
              have c14b0 : (t165 == 20) = true := beq_iff_eq.mpr c14
              have c14b1 : (t165 != 20) = false := bne_eq_false_iff_eq.mpr c14
              clear c14
              by_cases c15 : t164 = 0
              · rw [if_pos c15] at H
                have c15b0 : (t164 == 0) = true := beq_iff_eq.mpr c15
                have c15b1 : (t164 != 0) = false := bne_eq_false_iff_eq.mpr c15
                clear c15
                replace H := Option.bind_eq_some_iff.mp H
                obtain ⟨t166, A160, H⟩ := H
                replace H : (some t166) = some r := H
                have A16 := Aside0.mk A160
                clear A160
                obtain rfl := Option.some.inj H
                obtain ⟨Ao18, co18, eo18⟩ := Kd.R_slice HO_5.out
                subst eo18
                have q17 : (a1 : Int) ≤ ((t155.length : Int) : Int) := of_decide_eq_true (by first | (with_reducible assumption) | assumption)
                obtain ⟨i017, hi017, _, hsz17, _⟩ := info_parts info5
                have hroom17 : t155.length ≤ co18 := (Kd.R_reads' HO_5.out).2.1
                have hC17 : Kd.C (Kd.int .u8) _ Ao18 t155.length t155 := (Kd.R_reads' HO_5.out).2.2
                have hcut17 := cut_to (P := Tryd.prog) 24 5 .i64 Tryd.underlying24 hi017 Ao18 t155.length co18 a1 (of_decide_eq_true (by first | (with_reducible assumption) | assumption)) q17 hroom17
                have hr17 := Kd.C_take (m := (a1 : Int).toNat) hC17 (by omega)
                have hy17 : y159.length = (a1 : Int).toNat := (by rw [Ny159.out, List.length_take]; omega)
                rw [← Ny159.out] at hr17
                rw [← hy17] at hcut17
                have HR162 := Aside0.mk hr17
                have HC162 := Aside0.mk (show y159.length ≤ co18 from by omega)
                clear hr17 hC17 hroom17 hi017 hsz17
                have KY17 := Aside0.mk hy17
                clear hy17
                have KL17 := Aside0.mk (show (a1 : Int).toNat ≤ t155.length from by omega)
                replace q17 := eq_true q17
                go_wp2_with (first | ((with_reducible refine gate_callee (f := 11) rfl ?_); refine goesL_ (some 24) rfl rfl Tryd.func11 (by kernel_rfl) rfl #[.slice Ao18 y159.length co18] rfl (by (try simp only [List.map_toArray, List.map_cons, List.map_nil]); first | done | rfl | (simp only [List.length_drop, List.length_take]; rfl)) ?_; (with_reducible refine (leb_Get.calls kj3 _ _ y159 t163 t164 t165 _ ?side1 ?side2 ?side3 A13.out).mono ?_); (case side1 => repeat (first | exact (by repeat (first | (with_reducible exact HR162.out) | (with_reducible refine Kd.C_alloc ?_ _) | (with_reducible refine Kd.C_drewN ?_ _) | (with_reducible refine Kd.C_drew ?_) | exact HR162.out)) | (with_reducible refine Kd.C_alloc ?_ _) | (with_reducible refine Kd.C_drewN ?_ _) | (with_reducible refine Kd.C_drew ?_))); (case side2 => exact HC162.out); (case side3 => exact Glob.below HG.out (by repeat (first | (with_reducible first | exact HB.out | apply below_alloc | apply pw_below_drewN | apply below_drew1) | exact HB.out))); rintro e w19 ⟨rfl, hb⟩; refine ⟨_, rfl, ?_⟩; have n0_ := Aside0.mk (Kd.R_below (by (with_reducible repeat (first | apply Kd.R_alloc | apply Kd.R_drewN | apply Kd.R_drew)); exact HO_5.out) hb); have n1_ := Aside0.mk (Kd.C_below (by repeat (first | (with_reducible exact HR162.out) | (with_reducible refine Kd.C_alloc ?_ _) | (with_reducible refine Kd.C_drewN ?_ _) | (with_reducible refine Kd.C_drew ?_) | exact HR162.out)) hb); have n2_ := Aside0.mk (below_step (by repeat (first | (with_reducible first | exact HB.out | apply below_alloc | apply pw_below_drewN | apply below_drew1) | exact HB.out)) hb); clear HO_5; clear HR162; clear HB; have HO_5 := n0_; have HR162 := n1_; have HB := n2_; clear n0_ n1_ n2_; (try clear hb); (try clear hb2); (try clear hk); (try clear hi)) | (go_at_call 10; (with_reducible refine (palimpsestlaw02_heads.calls kj3  t166 _ ?side1 A16.out).mono ?_); (case side1 => exact Glob.below HG.out (by repeat (first | (with_reducible first | exact HB.out | apply below_alloc | apply pw_below_drewN | apply below_drew1) | exact HB.out))); rintro e w20 ⟨rfl, hb⟩; have n0_ := Aside0.mk (Kd.R_below (by (with_reducible repeat (first | apply Kd.R_alloc | apply Kd.R_drewN | apply Kd.R_drew)); exact HO_5.out) hb); have n1_ := Aside0.mk (Kd.C_below (by repeat (first | (with_reducible exact HR162.out) | (with_reducible refine Kd.C_alloc ?_ _) | (with_reducible refine Kd.C_drewN ?_ _) | (with_reducible refine Kd.C_drew ?_) | exact HR162.out)) hb); have n2_ := Aside0.mk (below_step (by repeat (first | (with_reducible first | exact HB.out | apply below_alloc | apply pw_below_drewN | apply below_drew1) | exact HB.out)) hb); clear HO_5; clear HR162; clear HB; have HO_5 := n0_; have HR162 := n1_; have HB := n2_; clear n0_ n1_ n2_; (try clear hb); (try clear hb2); (try clear hk); (try clear hi)))
                go_ret
                exact ⟨by first | rfl | (simp [errW_none, errW_some] <;> rfl) | (simp [*, errW_none, errW_some] <;> rfl), by repeat (first | (with_reducible first | exact HB.out | apply below_alloc | apply pw_below_drewN | apply below_drew1) | exact HB.out)⟩
              · rw [if_neg c15] at H
                have c15b0 : (t164 == 0) = false := beq_eq_false_iff_ne.mpr c15
                have c15b1 : (t164 != 0) = true := bne_iff_ne.mpr c15
                obtain rfl := Option.some.inj H
                obtain ⟨Ao22, co22, eo22⟩ := Kd.R_slice HO_5.out
                subst eo22
                have q21 : (a1 : Int) ≤ ((t155.length : Int) : Int) := of_decide_eq_true (by first | (with_reducible assumption) | assumption)
                obtain ⟨i021, hi021, _, hsz21, _⟩ := info_parts info5
                have hroom21 : t155.length ≤ co22 := (Kd.R_reads' HO_5.out).2.1
                have hC21 : Kd.C (Kd.int .u8) _ Ao22 t155.length t155 := (Kd.R_reads' HO_5.out).2.2
                have hcut21 := cut_to (P := Tryd.prog) 24 5 .i64 Tryd.underlying24 hi021 Ao22 t155.length co22 a1 (of_decide_eq_true (by first | (with_reducible assumption) | assumption)) q21 hroom21
                have hr21 := Kd.C_take (m := (a1 : Int).toNat) hC21 (by omega)
                have hy21 : y159.length = (a1 : Int).toNat := (by rw [Ny159.out, List.length_take]; omega)
                rw [← Ny159.out] at hr21
                rw [← hy21] at hcut21
                have HR162 := Aside0.mk hr21
                have HC162 := Aside0.mk (show y159.length ≤ co22 from by omega)
                clear hr21 hC21 hroom21 hi021 hsz21
                have KY21 := Aside0.mk hy21
                clear hy21
                have KL21 := Aside0.mk (show (a1 : Int).toNat ≤ t155.length from by omega)
                replace q21 := eq_true q21
                go_wp2_with (first | ((with_reducible refine gate_callee (f := 11) rfl ?_); refine goesL_ (some 24) rfl rfl Tryd.func11 (by kernel_rfl) rfl #[.slice Ao22 y159.length co22] rfl (by (try simp only [List.map_toArray, List.map_cons, List.map_nil]); first | done | rfl | (simp only [List.length_drop, List.length_take]; rfl)) ?_; (with_reducible refine (leb_Get.calls kj3 _ _ y159 t163 t164 t165 _ ?side1 ?side2 ?side3 A13.out).mono ?_); (case side1 => repeat (first | exact (by repeat (first | (with_reducible exact HR162.out) | (with_reducible refine Kd.C_alloc ?_ _) | (with_reducible refine Kd.C_drewN ?_ _) | (with_reducible refine Kd.C_drew ?_) | exact HR162.out)) | (with_reducible refine Kd.C_alloc ?_ _) | (with_reducible refine Kd.C_drewN ?_ _) | (with_reducible refine Kd.C_drew ?_))); (case side2 => exact HC162.out); (case side3 => exact Glob.below HG.out (by repeat (first | (with_reducible first | exact HB.out | apply below_alloc | apply pw_below_drewN | apply below_drew1) | exact HB.out))); rintro e w23 ⟨rfl, hb⟩; refine ⟨_, rfl, ?_⟩; have n0_ := Aside0.mk (Kd.R_below (by (with_reducible repeat (first | apply Kd.R_alloc | apply Kd.R_drewN | apply Kd.R_drew)); exact HO_5.out) hb); have n1_ := Aside0.mk (Kd.C_below (by repeat (first | (with_reducible exact HR162.out) | (with_reducible refine Kd.C_alloc ?_ _) | (with_reducible refine Kd.C_drewN ?_ _) | (with_reducible refine Kd.C_drew ?_) | exact HR162.out)) hb); have n2_ := Aside0.mk (below_step (by repeat (first | (with_reducible first | exact HB.out | apply below_alloc | apply pw_below_drewN | apply below_drew1) | exact HB.out)) hb); clear HO_5; clear HR162; clear HB; have HO_5 := n0_; have HR162 := n1_; have HB := n2_; clear n0_ n1_ n2_; (try clear hb); (try clear hb2); (try clear hk); (try clear hi)))
                go_ret
                exact ⟨by first | rfl | (simp [errW_none, errW_some] <;> rfl) | (simp [*, errW_none, errW_some] <;> rfl), by repeat (first | (with_reducible first | exact HB.out | apply below_alloc | apply pw_below_drewN | apply below_drew1) | exact HB.out)⟩
            · rw [if_neg c14] at H
              have c14b0 : (t165 == 20) = false := beq_eq_false_iff_ne.mpr c14
              have c14b1 : (t165 != 20) = true := bne_iff_ne.mpr c14
              obtain rfl := Option.some.inj H
              obtain ⟨Ao25, co25, eo25⟩ := Kd.R_slice HO_5.out
              subst eo25
              have q24 : (a1 : Int) ≤ ((t155.length : Int) : Int) := of_decide_eq_true (by first | (with_reducible assumption) | assumption)
              obtain ⟨i024, hi024, _, hsz24, _⟩ := info_parts info5
              have hroom24 : t155.length ≤ co25 := (Kd.R_reads' HO_5.out).2.1
              have hC24 : Kd.C (Kd.int .u8) _ Ao25 t155.length t155 := (Kd.R_reads' HO_5.out).2.2
              have hcut24 := cut_to (P := Tryd.prog) 24 5 .i64 Tryd.underlying24 hi024 Ao25 t155.length co25 a1 (of_decide_eq_true (by first | (with_reducible assumption) | assumption)) q24 hroom24
              have hr24 := Kd.C_take (m := (a1 : Int).toNat) hC24 (by omega)
              have hy24 : y159.length = (a1 : Int).toNat := (by rw [Ny159.out, List.length_take]; omega)
              rw [← Ny159.out] at hr24
              rw [← hy24] at hcut24
              have HR162 := Aside0.mk hr24
              have HC162 := Aside0.mk (show y159.length ≤ co25 from by omega)
              clear hr24 hC24 hroom24 hi024 hsz24
              have KY24 := Aside0.mk hy24
              clear hy24
              have KL24 := Aside0.mk (show (a1 : Int).toNat ≤ t155.length from by omega)
              replace q24 := eq_true q24
              go_wp2_with (first | ((with_reducible refine gate_callee (f := 11) rfl ?_); refine goesL_ (some 24) rfl rfl Tryd.func11 (by kernel_rfl) rfl #[.slice Ao25 y159.length co25] rfl (by (try simp only [List.map_toArray, List.map_cons, List.map_nil]); first | done | rfl | (simp only [List.length_drop, List.length_take]; rfl)) ?_; (with_reducible refine (leb_Get.calls kj3 _ _ y159 t163 t164 t165 _ ?side1 ?side2 ?side3 A13.out).mono ?_); (case side1 => repeat (first | exact (by repeat (first | (with_reducible exact HR162.out) | (with_reducible refine Kd.C_alloc ?_ _) | (with_reducible refine Kd.C_drewN ?_ _) | (with_reducible refine Kd.C_drew ?_) | exact HR162.out)) | (with_reducible refine Kd.C_alloc ?_ _) | (with_reducible refine Kd.C_drewN ?_ _) | (with_reducible refine Kd.C_drew ?_))); (case side2 => exact HC162.out); (case side3 => exact Glob.below HG.out (by repeat (first | (with_reducible first | exact HB.out | apply below_alloc | apply pw_below_drewN | apply below_drew1) | exact HB.out))); rintro e w26 ⟨rfl, hb⟩; refine ⟨_, rfl, ?_⟩; have n0_ := Aside0.mk (Kd.R_below (by (with_reducible repeat (first | apply Kd.R_alloc | apply Kd.R_drewN | apply Kd.R_drew)); exact HO_5.out) hb); have n1_ := Aside0.mk (Kd.C_below (by repeat (first | (with_reducible exact HR162.out) | (with_reducible refine Kd.C_alloc ?_ _) | (with_reducible refine Kd.C_drewN ?_ _) | (with_reducible refine Kd.C_drew ?_) | exact HR162.out)) hb); have n2_ := Aside0.mk (below_step (by repeat (first | (with_reducible first | exact HB.out | apply below_alloc | apply pw_below_drewN | apply below_drew1) | exact HB.out)) hb); clear HO_5; clear HR162; clear HB; have HO_5 := n0_; have HR162 := n1_; have HB := n2_; clear n0_ n1_ n2_; (try clear hb); (try clear hb2); (try clear hk); (try clear hi)))
              go_ret
              exact ⟨by first | rfl | (simp [errW_none, errW_some] <;> rfl) | (simp [*, errW_none, errW_some] <;> rfl), by repeat (first | (with_reducible first | exact HB.out | apply below_alloc | apply pw_below_drewN | apply below_drew1) | exact HB.out)⟩
          · rw [if_neg c12] at H
            exact absurd H (by simp)
        · rw [if_neg c11] at H
          exact absurd H (by simp)

/-- THE ONE PURE STATEMENT of palimpsestlaw02_LebCut: yours. -/
def palimpsestlaw02_LebCut.Pure : Prop := ∀ (a0 : Int) (a1 : Int), (okInt .u64) a0 → (okInt .i64) a1 → ∃ k, palimpsestlaw02_LebCut.f k a0 a1 = some true

end Go.Proofs.YtnlndcidnomioaaDoor.Fn
