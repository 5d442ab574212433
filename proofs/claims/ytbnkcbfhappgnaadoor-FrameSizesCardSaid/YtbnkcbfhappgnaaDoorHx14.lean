import Derived.Test.YtbnkcbfhappgnaaDoorHx0
import Derived.Test.YtbnkcbfhappgnaaDoorHx1
import Derived.Test.YtbnkcbfhappgnaaDoorHx6
import Derived.Test.YtbnkcbfhappgnaaDoorHx11
import Derived.Test.YtbnkcbfhappgnaaDoorHx13
namespace Go.Proofs.YtbnkcbfhappgnaaDoor.Fn
set_option maxHeartbeats 8000000
set_option maxRecDepth 100000
open Go.RowKit Go.Proofs.YtbnkcbfhappgnaaDoorW.PrintWords Go.Proofs.YtbnkcbfhappgnaaDoorW.PrintLast Go.Proofs.YtbnkcbfhappgnaaDoorW.PrintMore
attribute [local go_sem] max2_int min2_int max_two min_two max_three min_three max_four min_four
set_option linter.unusedVariables false
set_option linter.unusedSimpArgs false
def l12_FrameSizes.j0 : Nat → List Int → List Int → Int → Bool → Option (Bool)
  | 0, _, _, _, _ => none
  | k + 1, x1, x5, x6, x28 => if x28 = true then (if x6 = 120 then (if (x5.length : Int) = 0 then ((l12_heads.f k).bind fun t445 => (some t445)) else (some false)) else (some false)) else (if x6 = 0 then ((frame_Size.f (x1.length : Int)).bind fun t446 => (if (x5.length : Int) = t446 then ((l12_heads.f k).bind fun t447 => (some t447)) else (some false))) else (some false))
def l12_FrameSizes.f (k : Nat) (a0 : Int) (l1 : List Int) : Option (Bool) := if (l1.length : Int) > 9000 then ((l12_heads.f k).bind fun t435 => (some t435)) else ((l12_made.f k a0 l1).bind fun bt436 => ((frame_Put.f k bt436.1 bt436.2.1 bt436.2.2).bind fun bt441 => (if a0 < 1 then (l12_FrameSizes.j0 k l1 bt441.1 bt441.2 true) else (if a0 > 4 then (l12_FrameSizes.j0 k l1 bt441.1 bt441.2 true) else (l12_FrameSizes.j0 k l1 bt441.1 bt441.2 (decide ((l1.length : Int) > 8192)))))))
theorem l12_FrameSizes.mono_l : ∀ k, (∀ y0 y1 y2 y3, LeO (l12_FrameSizes.j0 k y0 y1 y2 y3) (l12_FrameSizes.j0 (k + 1) y0 y1 y2 y3))
  | 0 => fun _ _ _ _ r h => by simp [l12_FrameSizes.j0] at h
  | k + 1 => by
    have ih0 := l12_FrameSizes.mono_l k
    · intro y0 y1 y2 y3
      unfold l12_FrameSizes.j0
      repeat' first
      | (with_reducible exact ih0 _ _ _ _)
      | (with_reducible exact frame_Put.mono _ _ _ _)
      | (with_reducible exact l12_heads.mono _)
      | (with_reducible exact l12_made.mono _ _ _)
      | (with_reducible exact LeO.refl _)
      | (with_reducible exact LeO.none _)
      | (with_reducible refine LeO.ite ?_ ?_)
      | (with_reducible refine LeO.bind ?_ (fun _ => ?_))
      | exact ih0 _ _ _ _
      | exact LeO.none _
      | refine LeO.ite ?_ ?_
      | refine LeO.bind ?_ (fun _ => ?_)
theorem l12_FrameSizes.mono : ∀ a0 a1 k, LeO (l12_FrameSizes.f k a0 a1) (l12_FrameSizes.f (k + 1) a0 a1) := by
 intro a0 a1 k; have ih0 := l12_FrameSizes.mono_l k; unfold l12_FrameSizes.f
 repeat' first
     | (with_reducible exact ih0 _ _ _ _)
     | (with_reducible exact frame_Put.mono _ _ _ _)
     | (with_reducible exact l12_heads.mono _)
     | (with_reducible exact l12_made.mono _ _ _)
     | (with_reducible exact LeO.refl _)
     | (with_reducible exact LeO.none _)
     | (with_reducible refine LeO.ite ?_ ?_)
     | (with_reducible refine LeO.bind ?_ (fun _ => ?_))
     | exact ih0 _ _ _ _
     | exact LeO.none _
     | refine LeO.ite ?_ ?_
     | refine LeO.bind ?_ (fun _ => ?_)
theorem l12_FrameSizes.calls (k : Nat) (a0 : Int) (A1 : Option Addr) (c1 : Nat) (l1 : List Int) (r : Bool) (w : World) (hr1 : Kd.C (Kd.int .u8) w A1 l1.length l1) (hc1 : l1.length ≤ c1) (hG : Glob w) (hT : r = true) (h : l12_FrameSizes.f k a0 l1 = some r) :
    Calls Tryd.prog 3 #[.int .i64 a0, .slice A1 l1.length c1] w fun e w' => e = .returned (.bool r) ∧ Below w.heap.size w w' := by
 have HR1 := aM_ hr1; have HC1 := aM_ hc1; clear hr1 hc1; have HB := aM_ (Below.refl w.heap.size w); have HG := aM_ hG; clear hG; have HT := aM_ hT; clear hT; have H : (if (l1.length : Int) > 9000 then ((l12_heads.f k).bind fun t435 => (some t435)) else ((l12_made.f k a0 l1).bind fun bt436 => ((frame_Put.f k bt436.1 bt436.2.1 bt436.2.2).bind fun bt441 => (if a0 < 1 then (l12_FrameSizes.j0 k l1 bt441.1 bt441.2 true) else (if a0 > 4 then (l12_FrameSizes.j0 k l1 bt441.1 bt441.2 true) else (l12_FrameSizes.j0 k l1 bt441.1 bt441.2 (decide ((l1.length : Int) > 8192)))))))) = some r := h; clear h; (by_cases c3 : (l1.length : Int) > 9000); (· rw [if_pos c3] at H; have c3b0 : decide (9000 < (l1.length : Int)) = true := dT_ c3; have c3b1 : decide (9000 < l1.length) = true := dT_ (by omega); clear c3; replace H := Option.bind_eq_some_iff.mp H; obtain ⟨t435, A40, H⟩ := H; replace H : (some t435) = some r := H; have A4 := aM_ A40; clear A40; obtain rfl := oJ_ H; simp only [oI_, pI_] at H; obtain ⟨rfl⟩ := H; (go_enter Tryd.func3, Tryd.ntmps3); (go_wp2_with (first | ((with_reducible refine gate_callee (f := 7) rfl ?_); refine goesL_ (some 10) rfl rfl Tryd.func7 (by kernel_rfl) rfl #[] rfl (by (try simp only [mA_, mC_, mN_]); first | done | rfl | (simp only [lD_, lT_]; rfl)) ?_; (with_reducible refine (l12_heads.calls k  t435 _ ?side1 ?side2 A4.out).mono ?_); (case side1 => exact Glob.below HG.out (bZ0_ HB.out)); (case side2 => exact HT.out); rintro e w5 ⟨rfl, hb⟩; refine ⟨_, rfl, ?_⟩; have n0_ := aM_ (bT_ (bZ0_ HB.out) hb); clear HB; have HB := n0_; clear n0_; (try clear hb); (try clear hb2); (try clear hk); (try clear hi)))); go_ret; (exact ⟨by first | rfl | (simp [errW_none, errW_some] <;> rfl) | (simp [*, errW_none, errW_some] <;> rfl), by exact bZ0_ HB.out⟩))
 · rw [if_neg c3] at H
   have c3b0 : decide (9000 < (l1.length : Int)) = false := decide_eq_false c3; have c3b1 : decide (9000 < l1.length) = false := decide_eq_false (by omega); clear c3; replace H := Option.bind_eq_some_iff.mp H; obtain ⟨⟨t436, t437, t438⟩, A60, H⟩ := H; replace H : ((frame_Put.f k t436 t437 t438).bind fun bt441 => (if a0 < 1 then (l12_FrameSizes.j0 k l1 bt441.1 bt441.2 true) else (if a0 > 4 then (l12_FrameSizes.j0 k l1 bt441.1 bt441.2 true) else (l12_FrameSizes.j0 k l1 bt441.1 bt441.2 (decide ((l1.length : Int) > 8192)))))) = some r := H; have A6 := aM_ A60; clear A60; replace H := Option.bind_eq_some_iff.mp H; obtain ⟨⟨t441, t444⟩, A70, H⟩ := H; replace H : (if a0 < 1 then (l12_FrameSizes.j0 k l1 t441 t444 true) else (if a0 > 4 then (l12_FrameSizes.j0 k l1 t441 t444 true) else (l12_FrameSizes.j0 k l1 t441 t444 (decide ((l1.length : Int) > 8192))))) = some r := H; have A7 := aM_ A70; clear A70; have HC8 := aM_ H; clear H; (go_enter Tryd.func3, Tryd.ntmps3)
   go_upto_region 4 with (first | ((with_reducible refine gate_callee (f := 9) rfl ?_); refine goesL_ (some 14) rfl rfl Tryd.func9 (by kernel_rfl) rfl #[.int .i64 a0, .slice A1 l1.length c1] rfl (by (try simp only [mA_, mC_, mN_]); first | done | rfl | (simp only [lD_, lT_]; rfl)) ?_; (with_reducible refine (l12_made.calls k a0 (fun k_ => k_ < w.heap.size) _ _ l1 t436 t437 t438 _ ?side1 A6.out).mono ?_); (case side1 => exact Kd.V_mk HC1.out (Kd.F_below (Kd.C_F (Kd.heap_int .u8) HR1.out) (bZ0_ HB.out))); rintro e w9 ⟨v439, rfl, ho0, hb⟩; refine ⟨_, rfl, ?_⟩; have n0_ := aM_ (Kd.V_lower (Kd.V_mono (ok' := fun k_ => True) ho0 (fun k_ hk_ => trivial)) (bZ_ (bZ0_ HB.out))); have n1_ := aM_ (bT_ (bZ0_ HB.out) hb); clear HB; have HO440 := n0_; have HB := n1_; clear n0_ n1_; (try clear hb); (try clear hb2); (try clear hk); (try clear hi); (try clear ho0); obtain ⟨Ao10, co10, eo10⟩ := Kd.V_slice HO440.out; subst eo10) | ((with_reducible refine gate_callee (f := 8) rfl ?_); refine goesL_ (some 15) rfl rfl Tryd.func8 (by kernel_rfl) rfl #[.agg #[.int .i64 t436, .string t437, .slice Ao10 t438.length co10]] rfl (by (try simp only [mA_, mC_, mN_]); first | done | rfl | (simp only [lD_, lT_]; rfl)) ?_; (with_reducible refine (frame_Put.calls k t436 t437 _ _ t438 t441 t444 _ ?side1 ?side2 A7.out).mono ?_); (case side1 => repeat (first | exact (Kd.V_reads' HO440.out).2.2 | (with_reducible refine Kd.C_alloc ?_ _) | (with_reducible refine Kd.C_drewN ?_ _) | (with_reducible refine Kd.C_drew ?_))); (case side2 => exact (Kd.V_reads' HO440.out).2.1); rintro e w11 ⟨v442, rfl, ho0, hb⟩; refine ⟨_, rfl, ?_⟩; have n0_ := aM_ (Kd.V_elder' (by (with_reducible repeat (first | apply Kd.V_alloc | apply Kd.V_drewN | apply Kd.V_drew)); exact HO440.out) (Kd.R_base ho0) hb); have n1_ := aM_ (Kd.R_lower ho0 (bZ_ (bZ0_ HB.out))); have n2_ := aM_ (bT_ (bZ0_ HB.out) hb); clear HO440; clear HB; have HO440 := n0_; have HO443 := n1_; have HB := n2_; clear n0_ n1_ n2_; (try clear hb); (try clear hb2); (try clear hk); (try clear hi); (try clear ho0)))
   (try simp only [Act.put, sA_, sZ_, sS_]); (go_cut [28] (fun v28 wc => ∃ (kq : Nat) (x28_7 : Bool), v28 = .bool x28_7 ∧ Aside0 (l12_FrameSizes.j0 kq l1 t441 t444 x28_7 = some r) ∧ Aside0 (kq ≤ k) ∧ Aside0 (Kd.R (Kd.int .u8) 5 wc w.heap.size (fun _ => True) v442 t441) ∧ Aside0 (Below w.heap.size w wc)))
   case first =>
    have H := HC8.out; clear HC8; (by_cases c12 : a0 < 1)
    · rw [if_pos c12] at H
      have c12b0 : decide (a0 < 1) = true := dT_ c12; clear c12; (first | rw [c12b0] | (simp only [i64_w, i32_w]; rw [c12b0]) | skip); have H' := aM_ H; clear H; go_wp2; (go_meet)
      case rel => exact ⟨_, (true), (by first | rfl | (simp; done) | (simp [*]; done)), H', ⟨by first | omega | exact Nat.le_refl _⟩, ⟨rZ_ HO443.out⟩, ⟨bZ0_ HB.out⟩⟩
    · rw [if_neg c12] at H
      have c12b0 : decide (a0 < 1) = false := decide_eq_false c12; clear c12; (first | rw [c12b0] | (simp only [i64_w, i32_w]; rw [c12b0]) | skip); (by_cases c13 : a0 > 4)
      · rw [if_pos c13] at H
        have c13b0 : decide (4 < a0) = true := dT_ c13; clear c13; have H' := aM_ H; clear H; go_wp2; (go_meet)
        case rel => exact ⟨_, (true), (by first | rfl | (simp; done) | (simp [*]; done)), H', ⟨by first | omega | exact Nat.le_refl _⟩, ⟨rZ_ HO443.out⟩, ⟨bZ0_ HB.out⟩⟩
      · rw [if_neg c13] at H
        have c13b0 : decide (4 < a0) = false := decide_eq_false c13; clear c13; have H' := aM_ H; clear H; go_wp2; (go_meet)
        case rel => exact ⟨_, (decide ((l1.length : Int) > 8192)), (by first | rfl | (simp; done) | (simp [*]; done)), H', ⟨by first | omega | exact Nat.le_refl _⟩, ⟨rZ_ HO443.out⟩, ⟨bZ0_ HB.out⟩⟩
   case rest =>
    clear HC8; (try clear c1); (try clear p2); (try clear c3); (try clear c3b0); (try clear c3b1); (try clear c7); (try clear c8); (try clear c9); (try clear c12); (try clear c12b0); (try clear c13); (try clear c13b0); obtain ⟨kq, x28_7, rfl, HA, HJ7, HO_5, HB⟩ := hcut
    cases kq with
    | zero => exact absurd HA.out (by simp [l12_FrameSizes.j0])
    | succ kj7 =>
     have H := HA.out; clear HA; simp only [l12_FrameSizes.j0] at H; (by_cases c14 : x28_7 = true); (· subst c14; (have H1 : (if t444 = 120 then (if (t441.length : Int) = 0 then ((l12_heads.f kj7).bind fun t445 => (some t445)) else (some false)) else (some false)) = some r := by rw [if_pos rfl] at H; exact H); clear H; have H := H1; clear H1; (by_cases c15 : t444 = 120); (· rw [if_pos c15] at H; have c15b0 : (t444 == 120) = true := beq_iff_eq.mpr c15; have c15b1 : (t444 != 120) = false := bne_eq_false_iff_eq.mpr c15; clear c15; (by_cases c16 : (t441.length : Int) = 0); (· rw [if_pos c16] at H; have c16b0 : ((t441.length : Int) == 0) = true := beq_iff_eq.mpr c16; have c16b1 : ((t441.length : Int) != 0) = false := bne_eq_false_iff_eq.mpr c16; clear c16; replace H := Option.bind_eq_some_iff.mp H; obtain ⟨t445, A170, H⟩ := H; replace H : (some t445) = some r := H; have A17 := aM_ A170; clear A170; obtain rfl := oJ_ H; simp only [oI_, pI_] at H; obtain ⟨rfl⟩ := H; obtain ⟨Ao18, co18, eo18⟩ := Kd.R_slice HO_5.out; subst eo18; (go_wp2_with (first | (go_at_call 7; (with_reducible refine (l12_heads.calls kj7  t445 _ ?side1 ?side2 A17.out).mono ?_); (case side1 => exact Glob.below HG.out (bZ0_ HB.out)); (case side2 => exact HT.out); rintro e w19 ⟨rfl, hb⟩; have n0_ := aM_ (Kd.R_below (rZ_ HO_5.out) hb); have n1_ := aM_ (bT_ (bZ0_ HB.out) hb); clear HO_5; clear HB; have HO_5 := n0_; have HB := n1_; clear n0_ n1_; (try clear hb); (try clear hb2); (try clear hk); (try clear hi)))); go_ret; (exact ⟨by first | rfl | (simp [errW_none, errW_some] <;> rfl) | (simp [*, errW_none, errW_some] <;> rfl), by exact bZ0_ HB.out⟩)); (· rw [if_neg c16] at H; have c16b0 : ((t441.length : Int) == 0) = false := beq_eq_false_iff_ne.mpr c16; have c16b1 : ((t441.length : Int) != 0) = true := bne_iff_ne.mpr c16; have c16b2 : ¬ (t441 = []) := fun h_ => c16 (by rw [h_]; rfl); obtain rfl := oJ_ H; exact absurd HT.out (by decide))); (· rw [if_neg c15] at H; have c15b0 : (t444 == 120) = false := beq_eq_false_iff_ne.mpr c15; have c15b1 : (t444 != 120) = true := bne_iff_ne.mpr c15; obtain rfl := oJ_ H; exact absurd HT.out (by decide)))
     · replace c14 := Bool.eq_false_iff.mpr c14
       subst c14; (have H1 : (if t444 = 0 then ((frame_Size.f (l1.length : Int)).bind fun t446 => (if (t441.length : Int) = t446 then ((l12_heads.f kj7).bind fun t447 => (some t447)) else (some false))) else (some false)) = some r := by rw [if_neg (show ¬ (false = true) by decide)] at H; exact H); clear H; have H := H1; clear H1; (by_cases c20 : t444 = 0)
       · rw [if_pos c20] at H
         have c20b0 : (t444 == 0) = true := beq_iff_eq.mpr c20; have c20b1 : (t444 != 0) = false := bne_eq_false_iff_eq.mpr c20; clear c20; replace H := Option.bind_eq_some_iff.mp H; obtain ⟨t446, A210, H⟩ := H; replace H : (if (t441.length : Int) = t446 then ((l12_heads.f kj7).bind fun t447 => (some t447)) else (some false)) = some r := H; have A21 := aM_ A210; clear A210; (by_cases c22 : (t441.length : Int) = t446)
         · rw [if_pos c22] at H
           have c22b0 : ((t441.length : Int) == t446) = true := beq_iff_eq.mpr c22; have c22b1 : ((t441.length : Int) != t446) = false := bne_eq_false_iff_eq.mpr c22; clear c22; replace H := Option.bind_eq_some_iff.mp H; obtain ⟨t447, A230, H⟩ := H; replace H : (some t447) = some r := H; have A23 := aM_ A230; clear A230; obtain rfl := oJ_ H; simp only [oI_, pI_] at H; obtain ⟨rfl⟩ := H; obtain ⟨Ao24, co24, eo24⟩ := Kd.R_slice HO_5.out; subst eo24
           go_wp2_with (first | (go_at_call 10; (with_reducible refine (frame_Size.calls (l1.length : Int) t446 _ A21.out).mono ?_); rintro e w25 ⟨rfl, hb⟩; have n0_ := aM_ (Kd.R_below (rZ_ HO_5.out) hb); have n1_ := aM_ (bT_ (bZ0_ HB.out) hb); clear HO_5; clear HB; have HO_5 := n0_; have HB := n1_; clear n0_ n1_; (try clear hb); (try clear hb2); (try clear hk); (try clear hi)) | (go_at_call 7; (with_reducible refine (l12_heads.calls kj7  t447 _ ?side1 ?side2 A23.out).mono ?_); (case side1 => exact Glob.below HG.out (bZ0_ HB.out)); (case side2 => exact HT.out); rintro e w26 ⟨rfl, hb⟩; have n0_ := aM_ (Kd.R_below (rZ_ HO_5.out) hb); have n1_ := aM_ (bT_ (bZ0_ HB.out) hb); clear HO_5; clear HB; have HO_5 := n0_; have HB := n1_; clear n0_ n1_; (try clear hb); (try clear hb2); (try clear hk); (try clear hi)))
           go_ret; (exact ⟨by first | rfl | (simp [errW_none, errW_some] <;> rfl) | (simp [*, errW_none, errW_some] <;> rfl), by exact bZ0_ HB.out⟩)
         (· rw [if_neg c22] at H; have c22b0 : ((t441.length : Int) == t446) = false := beq_eq_false_iff_ne.mpr c22; have c22b1 : ((t441.length : Int) != t446) = true := bne_iff_ne.mpr c22; obtain rfl := oJ_ H; exact absurd HT.out (by decide))
       (· rw [if_neg c20] at H; have c20b0 : (t444 == 0) = false := beq_eq_false_iff_ne.mpr c20; have c20b1 : (t444 != 0) = true := bne_iff_ne.mpr c20; obtain rfl := oJ_ H; exact absurd HT.out (by decide))
def l12_FrameSizes.Pure : Prop := ∀ (a0 : Int) (l1 : List Int), (okInt .i64) a0 → (okRow 1 (okInt .u8)) l1 → ∃ k, l12_FrameSizes.f k a0 l1 = some true
def q12_kind.f (a0 : Int) : Option (Bool) := if a0 ≥ 1 then (some (decide (a0 ≤ 4))) else (some false)
theorem q12_kind.calls (a0 : Int) (r : Bool) (w : World) (h : q12_kind.f a0 = some r) :
    Calls Tryd.prog 25 #[.int .i64 a0] w fun e w' => e = .returned (.bool r) ∧ Drawn0 w w' := by
 have H : (if a0 ≥ 1 then (some (decide (a0 ≤ 4))) else (some false)) = some r := h; clear h; (by_cases c2 : a0 ≥ 1); (· rw [if_pos c2] at H; have c2b0 : decide (1 ≤ a0) = true := dT_ c2; clear c2; obtain rfl := oJ_ H; simp only [oI_, pI_] at H; obtain ⟨rfl⟩ := H; (go_enter Tryd.func25, Tryd.ntmps25); go_wp2; go_ret; exact ⟨by first | rfl | (simp; done) | (simp [*]; done), by repeat (first | exact Drawn0.refl _ | apply Drawn0.step)⟩); (· rw [if_neg c2] at H; have c2b0 : decide (1 ≤ a0) = false := decide_eq_false c2; clear c2; obtain rfl := oJ_ H; simp only [oI_, pI_] at H; obtain ⟨rfl⟩ := H; (go_enter Tryd.func25, Tryd.ntmps25); go_wp2; go_ret; exact ⟨by first | rfl | (simp; done) | (simp [*]; done), by repeat (first | exact Drawn0.refl _ | apply Drawn0.step)⟩)
def q03_step.l0 : Nat → Int → Int → Option (Int)
  | 0, _, _ => none
  | k + 1, x5, x6 => if x6 < 8 then (if (Int.tmod x5 2) = 1 then (q03_step.l0 k (Go.bits .xor .u32 ((Int.tdiv x5 2) % 4294967296) 3988292384) (wrap64 (x6 + 1))) else (q03_step.l0 k ((Int.tdiv x5 2) % 4294967296) (wrap64 (x6 + 1)))) else (some x5)
def q03_step.f (k : Nat) (a0 : Int) (a1 : Int) : Option (Int) := q03_step.l0 k (Go.bits .xor .u32 a0 ((a1) % 4294967296)) 0
theorem q03_step.mono_l : ∀ k, (∀ y0 y1, LeO (q03_step.l0 k y0 y1) (q03_step.l0 (k + 1) y0 y1))
  | 0 => fun _ _ r h => by simp [q03_step.l0] at h
  | k + 1 => by
    have ih0 := q03_step.mono_l k
    · intro y0 y1
      unfold q03_step.l0
      repeat' first
      | (with_reducible exact ih0 _ _)
      | (with_reducible exact LeO.refl _)
      | (with_reducible exact LeO.none _)
      | (with_reducible refine LeO.ite ?_ ?_)
      | (with_reducible refine LeO.bind ?_ (fun _ => ?_))
      | exact ih0 _ _
      | exact LeO.none _
      | refine LeO.ite ?_ ?_
      | refine LeO.bind ?_ (fun _ => ?_)
theorem q03_step.mono : ∀ a0 a1 k, LeO (q03_step.f k a0 a1) (q03_step.f (k + 1) a0 a1) := by
 intro a0 a1 k; have ih0 := q03_step.mono_l k; unfold q03_step.f
 repeat' first
     | (with_reducible exact ih0 _ _)
     | (with_reducible exact LeO.refl _)
     | (with_reducible exact LeO.none _)
     | (with_reducible refine LeO.ite ?_ ?_)
     | (with_reducible refine LeO.bind ?_ (fun _ => ?_))
     | exact ih0 _ _
     | exact LeO.none _
     | refine LeO.ite ?_ ?_
     | refine LeO.bind ?_ (fun _ => ?_)
theorem q03_step.calls (k : Nat) (a0 : Int) (a1 : Int) (r : Int) (w : World) (h : q03_step.f k a0 a1 = some r) :
    Calls Tryd.prog 77 #[.int .u32 a0, .int .u8 a1] w fun e w' => e = .returned (.int .u32 r) ∧ Drawn0 w w' := by
 have H : (q03_step.l0 k (Go.bits .xor .u32 a0 ((a1) % 4294967296)) 0) = some r := h; clear h; have H' := aM_ H; clear H; (go_enter Tryd.func77, Tryd.ntmps77); go_wp2; (go_loopg [5, 6] k (fun kq v5 v6 w' => ∃ (x5_1 : Int) (x6_1 : Int), v5 = .int .u32 x5_1 ∧ v6 = .int .i64 x6_1 ∧ Aside0 (q03_step.l0 kq x5_1 x6_1 = some r) ∧ Aside0 (kq ≤ k) ∧ Drawn0 w w'))
 case atStart => exact ⟨(Go.bits .xor .u32 a0 ((a1) % 4294967296)), (0), (by first | rfl | (simp; done) | (simp [*]; done)), (by first | rfl | (simp; done) | (simp [*]; done)), H', ⟨Nat.le_refl _⟩, by repeat (first | exact Drawn0.refl _ | apply Drawn0.step)⟩
 case round =>
  clear H'; (try clear p2); obtain ⟨x5_1, x6_1, rfl, rfl, HA, HK1, ⟨m1, rfl⟩⟩ := hrel
  cases gk with
  | zero => exact absurd HA.out (by simp [q03_step.l0])
  | succ k1 =>
   have H := HA.out; clear HA; simp only [q03_step.l0] at H; (by_cases c3 : x6_1 < 8)
   · rw [if_pos c3] at H
     have c3b0 : decide (x6_1 < 8) = true := dT_ c3; clear c3; (by_cases c4 : (Int.tmod x5_1 2) = 1)
     · rw [if_pos c4] at H
       have c4b0 : ((Int.tmod x5_1 2) == 1) = true := beq_iff_eq.mpr c4; have c4b1 : ((Int.tmod x5_1 2) != 1) = false := bne_eq_false_iff_eq.mpr c4; clear c4; have H' := aM_ H; clear H; go_wp2; (go_roundg k1)
       case measure => have := HK1.out; omega
       case rel => exact ⟨(Go.bits .xor .u32 ((Int.tdiv x5_1 2) % 4294967296) 3988292384), (wrap64 (x6_1 + 1)), (by first | rfl | (simp; done) | (simp [*]; done)), (by first | rfl | (simp; done) | (simp [*]; done)), H', ⟨by have := HK1.out; omega⟩, by repeat (first | exact Drawn0.refl _ | apply Drawn0.step)⟩
     · rw [if_neg c4] at H
       have c4b0 : ((Int.tmod x5_1 2) == 1) = false := beq_eq_false_iff_ne.mpr c4; have c4b1 : ((Int.tmod x5_1 2) != 1) = true := bne_iff_ne.mpr c4; have H' := aM_ H; clear H; go_wp2; (go_roundg k1)
       case measure => have := HK1.out; omega
       case rel => exact ⟨((Int.tdiv x5_1 2) % 4294967296), (wrap64 (x6_1 + 1)), (by first | rfl | (simp; done) | (simp [*]; done)), (by first | rfl | (simp; done) | (simp [*]; done)), H', ⟨by have := HK1.out; omega⟩, by repeat (first | exact Drawn0.refl _ | apply Drawn0.step)⟩
   (· rw [if_neg c3] at H; have c3b0 : decide (x6_1 < 8) = false := decide_eq_false c3; clear c3; obtain rfl := oJ_ H; simp only [oI_, pI_] at H; obtain ⟨rfl⟩ := H; go_wp2; go_ret; exact ⟨by first | rfl | (simp; done) | (simp [*]; done), by repeat (first | exact Drawn0.refl _ | apply Drawn0.step)⟩)
def q03_More.l0 : Nat → List Int → Int → Int → Option (Int)
  | 0, _, _, _ => none
  | k + 1, x1, x5, x6 => if x6 < (x1.length : Int) then (if 0 ≤ x6 then ((q03_step.f k x5 (rd x1 x6)).bind fun t449 => (q03_More.l0 k x1 t449 (wrap64 (x6 + 1)))) else (none)) else (some ((4294967295 - x5) % 4294967296))
def q03_More.f (k : Nat) (a0 : Int) (l1 : List Int) : Option (Int) := q03_More.l0 k l1 ((4294967295 - a0) % 4294967296) 0
theorem q03_More.mono_l : ∀ k, (∀ y0 y1 y2, LeO (q03_More.l0 k y0 y1 y2) (q03_More.l0 (k + 1) y0 y1 y2))
  | 0 => fun _ _ _ r h => by simp [q03_More.l0] at h
  | k + 1 => by
    have ih0 := q03_More.mono_l k
    · intro y0 y1 y2
      unfold q03_More.l0
      repeat' first
      | (with_reducible exact ih0 _ _ _)
      | (with_reducible exact q03_step.mono _ _ _)
      | (with_reducible exact LeO.refl _)
      | (with_reducible exact LeO.none _)
      | (with_reducible refine LeO.ite ?_ ?_)
      | (with_reducible refine LeO.bind ?_ (fun _ => ?_))
      | exact ih0 _ _ _
      | exact LeO.none _
      | refine LeO.ite ?_ ?_
      | refine LeO.bind ?_ (fun _ => ?_)
theorem q03_More.mono : ∀ a0 a1 k, LeO (q03_More.f k a0 a1) (q03_More.f (k + 1) a0 a1) := by
 intro a0 a1 k; have ih0 := q03_More.mono_l k; unfold q03_More.f
 repeat' first
     | (with_reducible exact ih0 _ _ _)
     | (with_reducible exact q03_step.mono _ _ _)
     | (with_reducible exact LeO.refl _)
     | (with_reducible exact LeO.none _)
     | (with_reducible refine LeO.ite ?_ ?_)
     | (with_reducible refine LeO.bind ?_ (fun _ => ?_))
     | exact ih0 _ _ _
     | exact LeO.none _
     | refine LeO.ite ?_ ?_
     | refine LeO.bind ?_ (fun _ => ?_)
theorem q03_More.calls (k : Nat) (a0 : Int) (A1 : Option Addr) (c1 : Nat) (l1 : List Int) (r : Int) (w : World) (hr1 : Kd.C (Kd.int .u8) w A1 l1.length l1) (hc1 : l1.length ≤ c1) (h : q03_More.f k a0 l1 = some r) :
    Calls Tryd.prog 68 #[.int .u32 a0, .slice A1 l1.length c1] w fun e w' => e = .returned (.int .u32 r) ∧ Drawn0 w w' := by
 have HR1 := aM_ hr1; have HC1 := aM_ hc1; clear hr1 hc1; have H : (q03_More.l0 k l1 ((4294967295 - a0) % 4294967296) 0) = some r := h; clear h; have H' := aM_ H; clear H; (go_enter Tryd.func68, Tryd.ntmps68); go_wp2; (go_loopg [5, 6] k (fun kq v5 v6 w' => ∃ (x5_1 : Int) (x6_1 : Int), v5 = .int .u32 x5_1 ∧ v6 = .int .i64 x6_1 ∧ Aside0 (q03_More.l0 kq l1 x5_1 x6_1 = some r) ∧ Aside0 (kq ≤ k) ∧ Drawn0 w w'))
 case atStart => exact ⟨((4294967295 - a0) % 4294967296), (0), (by first | rfl | (simp; done) | (simp [*]; done)), (by first | rfl | (simp; done) | (simp [*]; done)), H', ⟨Nat.le_refl _⟩, by repeat (first | exact Drawn0.refl _ | apply Drawn0.step)⟩
 case round =>
  clear H'; (try clear c1); (try clear p2); obtain ⟨x5_1, x6_1, rfl, rfl, HA, HK1, ⟨m1, rfl⟩⟩ := hrel
  cases gk with
  | zero => exact absurd HA.out (by simp [q03_More.l0])
  | succ k1 =>
   have H := HA.out; clear HA; simp only [q03_More.l0] at H; (by_cases c3 : x6_1 < (l1.length : Int))
   · rw [if_pos c3] at H
     have c3b0 : decide (x6_1 < (l1.length : Int)) = true := dT_ c3; clear c3; (by_cases c4 : 0 ≤ x6_1)
     · rw [if_pos c4] at H
       have c4b0 : decide (0 ≤ x6_1) = true := dT_ c4; clear c4; replace H := Option.bind_eq_some_iff.mp H; obtain ⟨t449, A50, H⟩ := H; replace H : (q03_More.l0 k1 l1 t449 (wrap64 (x6_1 + 1))) = some r := H; have A5 := aM_ A50; clear A50; have H' := aM_ H; clear H; have p448 : 0 ≤ (x6_1 : Int) := oD_ (by assumption); have q448 : x6_1 < (l1.length : Int) := oD_ (by assumption); obtain ⟨ad448, e448, hx448_0⟩ := Kd.at_int HR1.out x6_1 p448 q448; (cases e448); replace p448 := eq_true p448; replace q448 := eq_true q448; (go_wp2_with (first | ((with_reducible refine gate_callee (f := 77) rfl ?_); refine goesL_ (some 20) rfl rfl Tryd.func77 (by kernel_rfl) rfl #[.int .u32 x5_1, .int .u8 (rd l1 x6_1)] rfl (by (try simp only [mA_, mC_, mN_]); first | done | rfl | (simp only [lD_, lT_]; rfl)) ?_; (with_reducible refine (q03_step.calls k1 x5_1 (rd l1 x6_1) t449 _ A5.out).mono ?_); rintro e w' ⟨rfl, ⟨nd, rfl⟩⟩; refine ⟨_, rfl, ?_⟩))); (go_roundg k1)
       case measure => have := HK1.out; omega
       case rel => exact ⟨(t449), (wrap64 (x6_1 + 1)), (by first | rfl | (simp; done) | (simp [*]; done)), (by first | rfl | (simp; done) | (simp [*]; done)), H', ⟨by have := HK1.out; omega⟩, by repeat (first | exact Drawn0.refl _ | apply Drawn0.step)⟩
     (· rw [if_neg c4] at H; exact absurd H (by simp))
   (· rw [if_neg c3] at H; have c3b0 : decide (x6_1 < (l1.length : Int)) = false := decide_eq_false c3; clear c3; obtain rfl := oJ_ H; simp only [oI_, pI_] at H; obtain ⟨rfl⟩ := H; go_wp2; go_ret; exact ⟨by first | rfl | (simp; done) | (simp [*]; done), by repeat (first | exact Drawn0.refl _ | apply Drawn0.step)⟩)
def q03_Sum.f (k : Nat) (l0 : List Int) : Option (Int) := (q03_More.f k 0 l0).bind fun t450 => (some t450)
theorem q03_Sum.mono : ∀ a0 k, LeO (q03_Sum.f k a0) (q03_Sum.f (k + 1) a0) := by
 intro a0 k; unfold q03_Sum.f
 repeat' first
     | (with_reducible exact q03_More.mono _ _ _)
     | (with_reducible exact LeO.refl _)
     | (with_reducible exact LeO.none _)
     | (with_reducible refine LeO.ite ?_ ?_)
     | (with_reducible refine LeO.bind ?_ (fun _ => ?_))
     | exact LeO.none _
     | refine LeO.ite ?_ ?_
     | refine LeO.bind ?_ (fun _ => ?_)
theorem q03_Sum.calls (k : Nat) (A0 : Option Addr) (c0 : Nat) (l0 : List Int) (r : Int) (w : World) (hr0 : Kd.C (Kd.int .u8) w A0 l0.length l0) (hc0 : l0.length ≤ c0) (h : q03_Sum.f k l0 = some r) :
    Calls Tryd.prog 57 #[.slice A0 l0.length c0] w fun e w' => e = .returned (.int .u32 r) ∧ Drawn0 w w' := by
 have HR0 := aM_ hr0; have HC0 := aM_ hc0; clear hr0 hc0; have H : ((q03_More.f k 0 l0).bind fun t450 => (some t450)) = some r := h; clear h; replace H := Option.bind_eq_some_iff.mp H; obtain ⟨t450, A20, H⟩ := H; replace H : (some t450) = some r := H; have A2 := aM_ A20; clear A20; obtain rfl := oJ_ H; simp only [oI_, pI_] at H; obtain ⟨rfl⟩ := H; (go_enter Tryd.func57, Tryd.ntmps57); (go_wp2_with (first | ((with_reducible refine gate_callee (f := 68) rfl ?_); refine goesL_ (some 4) rfl rfl Tryd.func68 (by kernel_rfl) rfl #[.int .u32 0, .slice A0 l0.length c0] rfl (by (try simp only [mA_, mC_, mN_]); first | done | rfl | (simp only [lD_, lT_]; rfl)) ?_; (with_reducible refine (q03_More.calls k 0 _ _ l0 t450 _ ?side1 ?side2 A2.out).mono ?_); (case side1 => repeat (first | exact HR0.out | (with_reducible refine Kd.C_alloc ?_ _) | (with_reducible refine Kd.C_drewN ?_ _) | (with_reducible refine Kd.C_drew ?_))); (case side2 => exact HC0.out); rintro e w' ⟨rfl, ⟨nd, rfl⟩⟩; refine ⟨_, rfl, ?_⟩))); go_ret; exact ⟨by first | rfl | (simp; done) | (simp [*]; done), by repeat (first | exact Drawn0.refl _ | apply Drawn0.step)⟩
def q03_Bytes.f (k : Nat) (l0 : List Int) : Option (List Int) := (q03_Sum.f k l0).bind fun t451 => ((some (([] : List Int) : List Int)).bind fun y452 => (if y452.length + l0.length < 140737488355328 then ((some (y452 ++ l0 : List Int)).bind fun y455 => ((some (([(t451) % 256, (t451 / 256) % 256, (t451 / 65536) % 256, (t451 / 16777216) % 256] : List Int) : List Int)).bind fun y458 => (if y455.length + y458.length < 140737488355328 then (some (y455 ++ y458)) else (none)))) else (none)))
theorem q03_Bytes.mono : ∀ a0 k, LeO (q03_Bytes.f k a0) (q03_Bytes.f (k + 1) a0) := by
 intro a0 k; unfold q03_Bytes.f
 repeat' first
     | (with_reducible exact q03_Sum.mono _ _)
     | (with_reducible exact LeO.refl _)
     | (with_reducible exact LeO.none _)
     | (with_reducible refine LeO.ite ?_ ?_)
     | (with_reducible refine LeO.bind ?_ (fun _ => ?_))
     | exact LeO.none _
     | refine LeO.ite ?_ ?_
     | refine LeO.bind ?_ (fun _ => ?_)
theorem q03_Bytes.calls (k : Nat) (A0 : Option Addr) (c0 : Nat) (l0 : List Int) (r : List Int) (w : World) (hr0 : Kd.C (Kd.int .u8) w A0 l0.length l0) (hc0 : l0.length ≤ c0) (h : q03_Bytes.f k l0 = some r) :
    Calls Tryd.prog 40 #[.slice A0 l0.length c0] w fun e w' => ∃ v0_ : Value, e = .returned (v0_) ∧ Kd.R (Kd.int .u8) 5 w' w.heap.size (fun _ => True) v0_ r ∧ Below w.heap.size w w' := by
 have HR0 := aM_ hr0; have HC0 := aM_ hc0; clear hr0 hc0; have HB := aM_ (Below.refl w.heap.size w); have H : ((q03_Sum.f k l0).bind fun t451 => ((some (([] : List Int) : List Int)).bind fun y452 => (if y452.length + l0.length < 140737488355328 then ((some (y452 ++ l0 : List Int)).bind fun y455 => ((some (([(t451) % 256, (t451 / 256) % 256, (t451 / 65536) % 256, (t451 / 16777216) % 256] : List Int) : List Int)).bind fun y458 => (if y455.length + y458.length < 140737488355328 then (some (y455 ++ y458)) else (none)))) else (none)))) = some r := h; clear h; replace H := Option.bind_eq_some_iff.mp H; obtain ⟨t451, A20, H⟩ := H; replace H : ((some (([] : List Int) : List Int)).bind fun y452 => (if y452.length + l0.length < 140737488355328 then ((some (y452 ++ l0 : List Int)).bind fun y455 => ((some (([(t451) % 256, (t451 / 256) % 256, (t451 / 65536) % 256, (t451 / 16777216) % 256] : List Int) : List Int)).bind fun y458 => (if y455.length + y458.length < 140737488355328 then (some (y455 ++ y458)) else (none)))) else (none))) = some r := H; have A2 := aM_ A20; clear A20; obtain ⟨y452, hy452⟩ : ∃ y_ : List Int, y_ = (([] : List Int)) := ⟨_, rfl⟩; (replace H : (if y452.length + l0.length < 140737488355328 then ((some (y452 ++ l0 : List Int)).bind fun y455 => ((some (([(t451) % 256, (t451 / 256) % 256, (t451 / 65536) % 256, (t451 / 16777216) % 256] : List Int) : List Int)).bind fun y458 => (if y455.length + y458.length < 140737488355328 then (some (y455 ++ y458)) else (none)))) else (none)) = some r := by first | (rw [hy452]; with_reducible exact H) | (have H2_ := (oB_ _ _).symm.trans H; rw [hy452]; with_reducible exact H2_) | (have H2_ := (oB_ _ _).symm.trans H; with_reducible exact H2_) | with_reducible exact H | (rw [hy452]; exact H) | exact H); have Ny452 := aM_ hy452; clear hy452; (by_cases c3 : y452.length + l0.length < 140737488355328)
 · rw [if_pos c3] at H
   have LMc3 := aM_ c3; clear c3; obtain ⟨y455, hy455⟩ : ∃ y_ : List Int, y_ = (y452 ++ l0) := ⟨_, rfl⟩; (replace H : ((some (([(t451) % 256, (t451 / 256) % 256, (t451 / 65536) % 256, (t451 / 16777216) % 256] : List Int) : List Int)).bind fun y458 => (if y455.length + y458.length < 140737488355328 then (some (y455 ++ y458)) else (none))) = some r := by first | (rw [hy455]; with_reducible exact H) | (have H2_ := (oB_ _ _).symm.trans H; rw [hy455]; with_reducible exact H2_) | (have H2_ := (oB_ _ _).symm.trans H; with_reducible exact H2_) | with_reducible exact H | (rw [hy455]; exact H) | exact H); have Ny455 := aM_ hy455; clear hy455; obtain ⟨y458, hy458⟩ : ∃ y_ : List Int, y_ = (([(t451) % 256, (t451 / 256) % 256, (t451 / 65536) % 256, (t451 / 16777216) % 256] : List Int)) := ⟨_, rfl⟩; (replace H : (if y455.length + y458.length < 140737488355328 then (some (y455 ++ y458)) else (none)) = some r := by first | (rw [hy458]; with_reducible exact H) | (have H2_ := (oB_ _ _).symm.trans H; rw [hy458]; with_reducible exact H2_) | (have H2_ := (oB_ _ _).symm.trans H; with_reducible exact H2_) | with_reducible exact H | (rw [hy458]; exact H) | exact H); have Ny458 := aM_ hy458; clear hy458; (by_cases c4 : y455.length + y458.length < 140737488355328)
   · rw [if_pos c4] at H
     have LMc4 := aM_ c4; clear c4; obtain ⟨y461, hy461⟩ : ∃ y_ : List Int, y_ = (y455 ++ y458) := ⟨_, rfl⟩; (replace H : (some y461) = some r := by first | (rw [hy461]; with_reducible exact H) | (have H2_ := (oB_ _ _).symm.trans H; rw [hy461]; with_reducible exact H2_) | (have H2_ := (oB_ _ _).symm.trans H; with_reducible exact H2_) | with_reducible exact H | (rw [hy461]; exact H) | exact H); have Ny461 := aM_ hy461; clear hy461; obtain rfl := oJ_ H; simp only [oI_, pI_] at H; obtain ⟨rfl⟩ := H; (go_enter Tryd.func40, Tryd.ntmps40)
     go_wp2_with (first | ((with_reducible refine gate_callee (f := 57) rfl ?_); refine goesL_ (some 5) rfl rfl Tryd.func57 (by kernel_rfl) rfl #[.slice A0 l0.length c0] rfl (by (try simp only [mA_, mC_, mN_]); first | done | rfl | (simp only [lD_, lT_]; rfl)) ?_; (with_reducible refine (q03_Sum.calls k _ _ l0 t451 _ ?side1 ?side2 A2.out).mono ?_); (case side1 => repeat (first | exact HR0.out | (with_reducible refine Kd.C_alloc ?_ _) | (with_reducible refine Kd.C_drewN ?_ _) | (with_reducible refine Kd.C_drew ?_))); (case side2 => exact HC0.out); rintro e w' ⟨rfl, ⟨nd, rfl⟩⟩; refine ⟨_, rfl, ?_⟩) | ((with_reducible refine gate_dst (N := 6) rfl ?_); refine Kd.R_lit (Kd.int .u8) _ 5 ?hg (N := 6) ?hd (xs := ([] : List Int)) (inner := []) (ok := fun _ => True) (okp := fun _ => True) ?hr ?hp (fun _ hk => hk) trivial (Below.refl _ _) (Nat.le_refl _) (by simp) ?_; (case hd => rfl); (case hg => rfl); (case hr => first | (go_simp; done) | (go_simp; rfl)); (case hp => exact (Reps.none _ _)); intro v453 w5 ho6 hb hg_ hnew_; clear hg_ hnew_; (first | rw [← Ny452.out] at ho6 | (simp only [Int.reduceToNat] at ho6; rw [← Ny452.out] at ho6)); have n0_ := aM_ (Kd.R_lower ho6 (bZ_ (bZ0_ HB.out))); have n1_ := aM_ (bT_ (bZ0_ HB.out) hb); clear HB; have HO454 := n0_; have HB := n1_; clear n0_ n1_; clear hb ho6) | ((with_reducible refine gate_builtin (b := .append) (xs := #[.tmp 6, .tmp 7]) rfl ?_); at_builtin; refine Kd.R_append_rows (Kd.int .u8) (w0 := w) w.heap.size rfl (.tmp 6) (.tmp 7) 22 5 (.int .u8 0) 1 rfl Tryd.underlying22 info5 rfl (by decide) (by omega) v453 y452 l0 _ _ _ (fun _ => True) (fun _ => False) rfl rfl ?aO ?aR (fun _ _ h => h) (fun _ h => h.elim) ?aF ?aB ?aS ?aL ?_; (case aR => repeat (first | exact (Kd.C_below HR0.out HB.out) | (with_reducible refine Kd.C_alloc ?_ _) | (with_reducible refine Kd.C_drewN ?_ _) | (with_reducible refine Kd.C_drew ?_))); (case aB => exact (bZ0_ HB.out)); (case aF => exact (fun _ _ => trivial)); (case aO => exact (rZ_ HO454.out)); (case aS => exact (bZ_ (bZ0_ HB.out))); (case aL => have := LMc3.out; omega); intro v456 w7 ho hb hg hat; rw [← Ny455.out] at ho; have n0_ := aM_ (hb); have n1_ := aM_ (ho); clear HB; clear HO454; have HB := n0_; have HO457 := n1_; clear n0_ n1_; clear ho hb hg hat) | ((with_reducible refine gate_dst (N := 20) rfl ?_); refine Kd.R_lit (Kd.int .u8) _ 5 ?hg (N := 20) ?hd (xs := ([(t451) % 256, (t451 / 256) % 256, (t451 / 65536) % 256, (t451 / 16777216) % 256] : List Int)) (inner := [.int .u8 ((t451) % 256), .int .u8 ((t451 / 256) % 256), .int .u8 ((t451 / 65536) % 256), .int .u8 ((t451 / 16777216) % 256)]) (ok := fun _ => True) (okp := fun _ => True) ?hr ?hp (fun _ hk => hk) trivial (Below.refl _ _) (Nat.le_refl _) (by simp) ?_; (case hd => rfl); (case hg => rfl); (case hr => first | (go_simp; done) | (go_simp; rfl)); (case hp => exact (Reps.one (show Kd.M (Kd.int .u8) _ _ _ ((t451) % 256) [.int .u8 ((t451) % 256)] from rfl) (Reps.one (show Kd.M (Kd.int .u8) _ _ _ ((t451 / 256) % 256) [.int .u8 ((t451 / 256) % 256)] from rfl) (Reps.one (show Kd.M (Kd.int .u8) _ _ _ ((t451 / 65536) % 256) [.int .u8 ((t451 / 65536) % 256)] from rfl) (Reps.one (show Kd.M (Kd.int .u8) _ _ _ ((t451 / 16777216) % 256) [.int .u8 ((t451 / 16777216) % 256)] from rfl) (Reps.none _ _)))))); intro v459 w8 ho9 hb hg_ hnew_; clear hg_ hnew_; (first | rw [← Ny458.out] at ho9 | (simp only [Int.reduceToNat] at ho9; rw [← Ny458.out] at ho9)); have n0_ := aM_ (Kd.R_elder' (rZ_ HO457.out) (Kd.R_base ho9) hb); have n1_ := aM_ (Kd.R_lower (Kd.R_new' ho9 (Kd.R_lt (rZ_ HO457.out))) (bZ_ (bZ0_ HB.out))); have n2_ := aM_ (bT_ (bZ0_ HB.out) hb); clear HO457; clear HB; have HO457 := n0_; have HO460 := n1_; have HB := n2_; clear n0_ n1_ n2_; clear hb ho9; obtain ⟨Ao11, co11, eo11⟩ := Kd.R_slice HO460.out; subst eo11) | ((with_reducible refine gate_builtin (b := .append) (xs := #[.tmp 8, .tmp 20]) rfl ?_); at_builtin; refine Kd.R_append_rows (Kd.int .u8) (w0 := w) w.heap.size rfl (.tmp 8) (.tmp 20) 22 5 (.int .u8 0) 1 rfl Tryd.underlying22 info5 rfl (by decide) (by omega) v456 y455 y458 _ _ _ (fun k_ => some k_ ≠ (.slice Ao11 y458.length co11 : Value).ownBlock) (fun _ => False) rfl rfl ?aO ?aR (fun _ _ h => h) (fun _ h => h.elim) ?aF ?aB ?aS ?aL ?_; (case aR => repeat (first | exact (rR_ HO460.out).2.2 | (with_reducible refine Kd.C_alloc ?_ _) | (with_reducible refine Kd.C_drewN ?_ _) | (with_reducible refine Kd.C_drew ?_))); (case aB => exact (bZ0_ HB.out)); (case aF => exact (fun k_ hk => Kd.fresh' (Kd.R_lt (rZ_ HO460.out)) k_ hk)); (case aO => exact (by (with_reducible repeat (first | apply rA_ | apply rN_ | apply rD_)); exact Kd.R_mono HO457.out (fun _ hk => hk.2))); (case aS => exact (bZ_ (bZ0_ HB.out))); (case aL => have := LMc4.out; omega); intro v462 w10 ho hb hg hat; rw [← Ny461.out] at ho; have n0_ := aM_ (Kd.R_after (ok := (fun _ => True)) (rZ_ HO460.out) hg hat); have n1_ := aM_ (hb); have n2_ := aM_ (ho); clear HO460; clear HB; clear HO457; have HO460 := n0_; have HB := n1_; have HO463 := n2_; clear n0_ n1_ n2_; clear ho hb hg hat))
     go_ret; (exact ⟨_, by first | rfl | (simp [errW_none, errW_some] <;> rfl) | (simp [*, errW_none, errW_some] <;> rfl), by (with_reducible repeat (first | apply rA_ | apply rN_ | apply rD_)); exact Kd.R_mono HO463.out (fun _ hk => trivial), by exact bZ0_ HB.out⟩)
   (· rw [if_neg c4] at H; exact absurd H (by simp))
 (· rw [if_neg c3] at H; exact absurd H (by simp))
def q02_Put.l0 : Nat → Int → List Int → Option (List Int)
  | 0, _, _ => none
  | k + 1, x0, x3 => if x0 ≥ 128 then (if x3.length < 140737488355328 then (q02_Put.l0 k (IntKind.u64.wrap (Int.tdiv x0 128)) (x3 ++ [(IntKind.u64.wrap ((Int.tmod x0 128) + 128)) % 256])) else (none)) else (if x3.length < 140737488355328 then (some (x3 ++ [(x0) % 256])) else (none))
def q02_Put.f (k : Nat) (a0 : Int) : Option (List Int) := q02_Put.l0 k a0 ([] : List Int)
theorem q02_Put.mono_l : ∀ k, (∀ y0 y1, LeO (q02_Put.l0 k y0 y1) (q02_Put.l0 (k + 1) y0 y1))
  | 0 => fun _ _ r h => by simp [q02_Put.l0] at h
  | k + 1 => by
    have ih0 := q02_Put.mono_l k
    · intro y0 y1
      unfold q02_Put.l0
      repeat' first
      | (with_reducible exact ih0 _ _)
      | (with_reducible exact LeO.refl _)
      | (with_reducible exact LeO.none _)
      | (with_reducible refine LeO.ite ?_ ?_)
      | (with_reducible refine LeO.bind ?_ (fun _ => ?_))
      | exact ih0 _ _
      | exact LeO.none _
      | refine LeO.ite ?_ ?_
      | refine LeO.bind ?_ (fun _ => ?_)
theorem q02_Put.mono : ∀ a0 k, LeO (q02_Put.f k a0) (q02_Put.f (k + 1) a0) := by
 intro a0 k; have ih0 := q02_Put.mono_l k; unfold q02_Put.f
 repeat' first
     | (with_reducible exact ih0 _ _)
     | (with_reducible exact LeO.refl _)
     | (with_reducible exact LeO.none _)
     | (with_reducible refine LeO.ite ?_ ?_)
     | (with_reducible refine LeO.bind ?_ (fun _ => ?_))
     | exact ih0 _ _
     | exact LeO.none _
     | refine LeO.ite ?_ ?_
     | refine LeO.bind ?_ (fun _ => ?_)
theorem q02_Put.calls (k : Nat) (a0 : Int) (r : List Int) (w : World) (h : q02_Put.f k a0 = some r) :
    Calls Tryd.prog 27 #[.int .u64 a0] w fun e w' => ∃ v0_ : Value, e = .returned (v0_) ∧ Kd.R (Kd.int .u8) 5 w' w.heap.size (fun _ => True) v0_ r ∧ Below w.heap.size w w' := by
 have HB := aM_ (Below.refl w.heap.size w); have H : (q02_Put.l0 k a0 ([] : List Int)) = some r := h; clear h; have H' := aM_ H; clear H; (go_enter Tryd.func27, Tryd.ntmps27); go_wp2; (go_loopg [0, 3] k (fun kq v0 v3 w' => ∃ (x0_1 : Int) (x3_1 : List Int), v0 = .int .u64 x0_1 ∧ Aside0 (q02_Put.l0 kq x0_1 x3_1 = some r) ∧ Aside0 (kq ≤ k) ∧ Aside0 (Kd.R (Kd.int .u8) 5 w' w.heap.size (fun _ => True) v3 x3_1) ∧ Aside0 (Below w.heap.size w w')))
 case atStart => exact ⟨(a0), (([] : List Int)), (by first | rfl | (simp; done) | (simp [*]; done)), H', ⟨Nat.le_refl _⟩, ⟨by first | exact Kd.R_nil _ _ _ _ _ | exact Kd.N_nil _ _ _ _ _ | exact Kd.V_nil _ _ _ _ _ | exact Kd.Q_nil _ _ _ _ _ | exact Kd.S_nil _ _ _ _ _⟩, ⟨bZ0_ HB.out⟩⟩
 case round =>
  clear H'; obtain ⟨x0_1, x3_1, rfl, HA, HK1, HO_3, HB⟩ := hrel
  cases gk with
  | zero => exact absurd HA.out (by simp [q02_Put.l0])
  | succ k1 =>
   have H := HA.out; clear HA; simp only [q02_Put.l0] at H; (by_cases c2 : x0_1 ≥ 128)
   · rw [if_pos c2] at H
     have c2b0 : decide (128 ≤ x0_1) = true := dT_ c2; clear c2; (by_cases c3 : x3_1.length < 140737488355328)
     · rw [if_pos c3] at H
       have LMc3 := aM_ c3; clear c3; obtain ⟨y464, hy464⟩ : ∃ y_ : List Int, y_ = (x3_1 ++ [(IntKind.u64.wrap ((Int.tmod x0_1 128) + 128)) % 256]) := ⟨_, rfl⟩; (replace H : (q02_Put.l0 k1 (IntKind.u64.wrap (Int.tdiv x0_1 128)) y464) = some r := by first | (rw [hy464]; with_reducible exact H) | (have H2_ := (oB_ _ _).symm.trans H; rw [hy464]; with_reducible exact H2_) | (have H2_ := (oB_ _ _).symm.trans H; with_reducible exact H2_) | with_reducible exact H | (rw [hy464]; exact H) | exact H); have Ny464 := aM_ hy464; clear hy464; have H' := aM_ H; clear H
       go_wp2_with (first | ((with_reducible refine gate_builtin (b := .append) (xs := #[.tmp 6, .tmp 11]) rfl ?_); at_builtin; refine Kd.R_append (Kd.int .u8) (w0 := w) w.heap.size rfl (.tmp 6) (.tmp 11) 22 5 (.int .u8 0) 1 rfl Tryd.underlying22 info5 rfl (by decide) (by omega) u3 x3_1 ((IntKind.u64.wrap ((Int.tmod x0_1 128) + 128)) % 256) [.int .u8 ((IntKind.u64.wrap ((Int.tmod x0_1 128) + 128)) % 256)] (fun _ => True) (fun _ => False) rfl rfl ?aP (fun _ hk => hk.elim) ?aF ?aO ?aB ?aS ?aL ?_; (case aP => exact rfl); (case aB => exact (bZ0_ HB.out)); (case aF => exact (fun _ _ => trivial)); (case aO => exact (rZ_ HO_3.out)); (case aS => exact (bZ_ (bZ0_ HB.out))); (case aL => have := LMc3.out; omega); intro v465 w4 ho hb hg hat; rw [← Ny464.out] at ho; have n0_ := aM_ (hb); have n1_ := aM_ (ho); clear HB; clear HO_3; have HB := n0_; have HO466 := n1_; clear n0_ n1_; clear ho hb hg hat))
       (go_roundg k1)
       case measure => have := HK1.out; omega
       case rel => exact ⟨(IntKind.u64.wrap (Int.tdiv x0_1 128)), (y464), (by first | rfl | (simp; done) | (simp [*]; done)), H', ⟨by have := HK1.out; omega⟩, ⟨rZ_ HO466.out⟩, ⟨bZ0_ HB.out⟩⟩
     (· rw [if_neg c3] at H; exact absurd H (by simp))
   (· rw [if_neg c2] at H; have c2b0 : decide (128 ≤ x0_1) = false := decide_eq_false c2; clear c2; (by_cases c5 : x3_1.length < 140737488355328); (· rw [if_pos c5] at H; have LMc5 := aM_ c5; clear c5; obtain ⟨y467, hy467⟩ : ∃ y_ : List Int, y_ = (x3_1 ++ [(x0_1) % 256]) := ⟨_, rfl⟩; (replace H : (some y467) = some r := by first | (rw [hy467]; with_reducible exact H) | (have H2_ := (oB_ _ _).symm.trans H; rw [hy467]; with_reducible exact H2_) | (have H2_ := (oB_ _ _).symm.trans H; with_reducible exact H2_) | with_reducible exact H | (rw [hy467]; exact H) | exact H); have Ny467 := aM_ hy467; clear hy467; obtain rfl := oJ_ H; simp only [oI_, pI_] at H; obtain ⟨rfl⟩ := H; (go_wp2_with (first | ((with_reducible refine gate_builtin (b := .append) (xs := #[.tmp 15, .tmp 18]) rfl ?_); at_builtin; refine Kd.R_append (Kd.int .u8) (w0 := w) w.heap.size rfl (.tmp 15) (.tmp 18) 22 5 (.int .u8 0) 1 rfl Tryd.underlying22 info5 rfl (by decide) (by omega) u3 x3_1 ((x0_1) % 256) [.int .u8 ((x0_1) % 256)] (fun _ => True) (fun _ => False) rfl rfl ?aP (fun _ hk => hk.elim) ?aF ?aO ?aB ?aS ?aL ?_; (case aP => exact rfl); (case aB => exact (bZ0_ HB.out)); (case aF => exact (fun _ _ => trivial)); (case aO => exact (rZ_ HO_3.out)); (case aS => exact (bZ_ (bZ0_ HB.out))); (case aL => have := LMc5.out; omega); intro v468 w6 ho hb hg hat; rw [← Ny467.out] at ho; have n0_ := aM_ (hb); have n1_ := aM_ (ho); clear HB; clear HO_3; have HB := n0_; have HO469 := n1_; clear n0_ n1_; clear ho hb hg hat))); go_ret; (exact ⟨_, by first | rfl | (simp [errW_none, errW_some] <;> rfl) | (simp [*, errW_none, errW_some] <;> rfl), by exact rZ_ HO469.out, by exact bZ0_ HB.out⟩)); (· rw [if_neg c5] at H; exact absurd H (by simp)))
def q02_Bytes.f (k : Nat) (l0 : List Int) : Option (List Int) := (q02_Put.f k (IntKind.u64.wrap ((l0.length : Int)))).bind fun t470 => (if t470.length + l0.length < 140737488355328 then (some (t470 ++ l0)) else (none))
theorem q02_Bytes.mono : ∀ a0 k, LeO (q02_Bytes.f k a0) (q02_Bytes.f (k + 1) a0) := by
 intro a0 k; unfold q02_Bytes.f
 repeat' first
     | (with_reducible exact q02_Put.mono _ _)
     | (with_reducible exact LeO.refl _)
     | (with_reducible exact LeO.none _)
     | (with_reducible refine LeO.ite ?_ ?_)
     | (with_reducible refine LeO.bind ?_ (fun _ => ?_))
     | exact LeO.none _
     | refine LeO.ite ?_ ?_
     | refine LeO.bind ?_ (fun _ => ?_)
theorem q02_Bytes.calls (k : Nat) (A0 : Option Addr) (c0 : Nat) (l0 : List Int) (r : List Int) (w : World) (hr0 : Kd.C (Kd.int .u8) w A0 l0.length l0) (hc0 : l0.length ≤ c0) (h : q02_Bytes.f k l0 = some r) :
    Calls Tryd.prog 41 #[.slice A0 l0.length c0] w fun e w' => ∃ v0_ : Value, e = .returned (v0_) ∧ Kd.R (Kd.int .u8) 5 w' w.heap.size (fun _ => True) v0_ r ∧ Below w.heap.size w w' := by
 have HR0 := aM_ hr0; have HC0 := aM_ hc0; clear hr0 hc0; have HB := aM_ (Below.refl w.heap.size w); have H : ((q02_Put.f k (IntKind.u64.wrap ((l0.length : Int)))).bind fun t470 => (if t470.length + l0.length < 140737488355328 then (some (t470 ++ l0)) else (none))) = some r := h; clear h; replace H := Option.bind_eq_some_iff.mp H; obtain ⟨t470, A20, H⟩ := H; replace H : (if t470.length + l0.length < 140737488355328 then (some (t470 ++ l0)) else (none)) = some r := H; have A2 := aM_ A20; clear A20; (by_cases c3 : t470.length + l0.length < 140737488355328)
 · rw [if_pos c3] at H
   have LMc3 := aM_ c3; clear c3; obtain ⟨y473, hy473⟩ : ∃ y_ : List Int, y_ = (t470 ++ l0) := ⟨_, rfl⟩; (replace H : (some y473) = some r := by first | (rw [hy473]; with_reducible exact H) | (have H2_ := (oB_ _ _).symm.trans H; rw [hy473]; with_reducible exact H2_) | (have H2_ := (oB_ _ _).symm.trans H; with_reducible exact H2_) | with_reducible exact H | (rw [hy473]; exact H) | exact H); have Ny473 := aM_ hy473; clear hy473; obtain rfl := oJ_ H; simp only [oI_, pI_] at H; obtain ⟨rfl⟩ := H; (go_enter Tryd.func41, Tryd.ntmps41)
   go_wp2_with (first | ((with_reducible refine gate_callee (f := 27) rfl ?_); refine goesL_ (some 6) rfl rfl Tryd.func27 (by kernel_rfl) rfl #[.int .u64 (IntKind.u64.wrap ((l0.length : Int)))] rfl (by (try simp only [mA_, mC_, mN_]); first | done | rfl | (simp only [lD_, lT_]; rfl)) ?_; (with_reducible refine (q02_Put.calls k (IntKind.u64.wrap ((l0.length : Int))) t470 _ A2.out).mono ?_); rintro e w4 ⟨v471, rfl, ho0, hb⟩; refine ⟨_, rfl, ?_⟩; have n0_ := aM_ (Kd.R_lower ho0 (bZ_ (bZ0_ HB.out))); have n1_ := aM_ (bT_ (bZ0_ HB.out) hb); clear HB; have HO472 := n0_; have HB := n1_; clear n0_ n1_; (try clear hb); (try clear hb2); (try clear hk); (try clear hi); (try clear ho0)) | ((with_reducible refine gate_builtin (b := .append) (xs := #[.tmp 6, .tmp 7]) rfl ?_); at_builtin; refine Kd.R_append_rows (Kd.int .u8) (w0 := w) w.heap.size rfl (.tmp 6) (.tmp 7) 22 5 (.int .u8 0) 1 rfl Tryd.underlying22 info5 rfl (by decide) (by omega) v471 t470 l0 _ _ _ (fun _ => True) (fun _ => False) rfl rfl ?aO ?aR (fun _ _ h => h) (fun _ h => h.elim) ?aF ?aB ?aS ?aL ?_; (case aR => repeat (first | exact (Kd.C_below HR0.out HB.out) | (with_reducible refine Kd.C_alloc ?_ _) | (with_reducible refine Kd.C_drewN ?_ _) | (with_reducible refine Kd.C_drew ?_))); (case aB => exact (bZ0_ HB.out)); (case aF => exact (fun _ _ => trivial)); (case aO => exact (rZ_ HO472.out)); (case aS => exact (bZ_ (bZ0_ HB.out))); (case aL => have := LMc3.out; omega); intro v474 w5 ho hb hg hat; rw [← Ny473.out] at ho; have n0_ := aM_ (hb); have n1_ := aM_ (ho); clear HB; clear HO472; have HB := n0_; have HO475 := n1_; clear n0_ n1_; clear ho hb hg hat))
   go_ret; (exact ⟨_, by first | rfl | (simp [errW_none, errW_some] <;> rfl) | (simp [*, errW_none, errW_some] <;> rfl), by exact rZ_ HO475.out, by exact bZ0_ HB.out⟩)
 (· rw [if_neg c3] at H; exact absurd H (by simp))
def q12_write.f (k : Nat) (a0 : Int) (l1 : List Int) : Option (List Int) := (some (([165, (a0) % 256] : List Int) : List Int)).bind fun y476 => ((q02_Bytes.f k l1).bind fun t479 => (if y476.length + t479.length < 140737488355328 then ((q03_Bytes.f k (y476 ++ t479)).bind fun t485 => (some t485)) else (none)))
theorem q12_write.mono : ∀ a0 a1 k, LeO (q12_write.f k a0 a1) (q12_write.f (k + 1) a0 a1) := by
 intro a0 a1 k; unfold q12_write.f
 repeat' first
     | (with_reducible exact q02_Bytes.mono _ _)
     | (with_reducible exact q03_Bytes.mono _ _)
     | (with_reducible exact LeO.refl _)
     | (with_reducible exact LeO.none _)
     | (with_reducible refine LeO.ite ?_ ?_)
     | (with_reducible refine LeO.bind ?_ (fun _ => ?_))
     | exact LeO.none _
     | refine LeO.ite ?_ ?_
     | refine LeO.bind ?_ (fun _ => ?_)
theorem q12_write.calls (k : Nat) (a0 : Int) (A1 : Option Addr) (c1 : Nat) (l1 : List Int) (r : List Int) (w : World) (hr1 : Kd.C (Kd.int .u8) w A1 l1.length l1) (hc1 : l1.length ≤ c1) (h : q12_write.f k a0 l1 = some r) :
    Calls Tryd.prog 26 #[.int .i64 a0, .slice A1 l1.length c1] w fun e w' => ∃ v0_ : Value, e = .returned (v0_) ∧ Kd.R (Kd.int .u8) 5 w' w.heap.size (fun _ => True) v0_ r ∧ Below w.heap.size w w' := by
 have HR1 := aM_ hr1; have HC1 := aM_ hc1; clear hr1 hc1; have HB := aM_ (Below.refl w.heap.size w); have H : ((some (([165, (a0) % 256] : List Int) : List Int)).bind fun y476 => ((q02_Bytes.f k l1).bind fun t479 => (if y476.length + t479.length < 140737488355328 then ((q03_Bytes.f k (y476 ++ t479)).bind fun t485 => (some t485)) else (none)))) = some r := h; clear h; obtain ⟨y476, hy476⟩ : ∃ y_ : List Int, y_ = (([165, (a0) % 256] : List Int)) := ⟨_, rfl⟩; (replace H : ((q02_Bytes.f k l1).bind fun t479 => (if y476.length + t479.length < 140737488355328 then ((q03_Bytes.f k (y476 ++ t479)).bind fun t485 => (some t485)) else (none))) = some r := by first | (rw [hy476]; with_reducible exact H) | (have H2_ := (oB_ _ _).symm.trans H; rw [hy476]; with_reducible exact H2_) | (have H2_ := (oB_ _ _).symm.trans H; with_reducible exact H2_) | with_reducible exact H | (rw [hy476]; exact H) | exact H); have Ny476 := aM_ hy476; clear hy476; replace H := Option.bind_eq_some_iff.mp H; obtain ⟨t479, A30, H⟩ := H; replace H : (if y476.length + t479.length < 140737488355328 then ((q03_Bytes.f k (y476 ++ t479)).bind fun t485 => (some t485)) else (none)) = some r := H; have A3 := aM_ A30; clear A30; (by_cases c4 : y476.length + t479.length < 140737488355328)
 · rw [if_pos c4] at H
   have LMc4 := aM_ c4; clear c4; obtain ⟨y482, hy482⟩ : ∃ y_ : List Int, y_ = (y476 ++ t479) := ⟨_, rfl⟩; (replace H : ((q03_Bytes.f k y482).bind fun t485 => (some t485)) = some r := by first | (rw [hy482]; with_reducible exact H) | (have H2_ := (oB_ _ _).symm.trans H; rw [hy482]; with_reducible exact H2_) | (have H2_ := (oB_ _ _).symm.trans H; with_reducible exact H2_) | with_reducible exact H | (rw [hy482]; exact H) | exact H); have Ny482 := aM_ hy482; clear hy482; replace H := Option.bind_eq_some_iff.mp H; obtain ⟨t485, A50, H⟩ := H; replace H : (some t485) = some r := H; have A5 := aM_ A50; clear A50; obtain rfl := oJ_ H; simp only [oI_, pI_] at H; obtain ⟨rfl⟩ := H; (go_enter Tryd.func26, Tryd.ntmps26)
   go_wp2_with (first | ((with_reducible refine gate_dst (N := 7) rfl ?_); refine Kd.R_lit (Kd.int .u8) _ 5 ?hg (N := 7) ?hd (xs := ([165, (a0) % 256] : List Int)) (inner := [.int .u8 165, .int .u8 ((a0) % 256)]) (ok := fun _ => True) (okp := fun _ => True) ?hr ?hp (fun _ hk => hk) trivial (Below.refl _ _) (Nat.le_refl _) (by simp) ?_; (case hd => rfl); (case hg => rfl); (case hr => first | (go_simp; done) | (go_simp; rfl)); (case hp => exact (Reps.one (show Kd.M (Kd.int .u8) _ _ _ 165 [.int .u8 165] from rfl) (Reps.one (show Kd.M (Kd.int .u8) _ _ _ ((a0) % 256) [.int .u8 ((a0) % 256)] from rfl) (Reps.none _ _)))); intro v477 w6 ho7 hb hg_ hnew_; clear hg_ hnew_; (first | rw [← Ny476.out] at ho7 | (simp only [Int.reduceToNat] at ho7; rw [← Ny476.out] at ho7)); have n0_ := aM_ (Kd.R_lower ho7 (bZ_ (bZ0_ HB.out))); have n1_ := aM_ (bT_ (bZ0_ HB.out) hb); clear HB; have HO478 := n0_; have HB := n1_; clear n0_ n1_; clear hb ho7) | ((with_reducible refine gate_callee (f := 41) rfl ?_); refine goesL_ (some 9) rfl rfl Tryd.func41 (by kernel_rfl) rfl #[.slice A1 l1.length c1] rfl (by (try simp only [mA_, mC_, mN_]); first | done | rfl | (simp only [lD_, lT_]; rfl)) ?_; (with_reducible refine (q02_Bytes.calls k _ _ l1 t479 _ ?side1 ?side2 A3.out).mono ?_); (case side1 => repeat (first | exact (Kd.C_below HR1.out HB.out) | (with_reducible refine Kd.C_alloc ?_ _) | (with_reducible refine Kd.C_drewN ?_ _) | (with_reducible refine Kd.C_drew ?_))); (case side2 => exact HC1.out); rintro e w8 ⟨v480, rfl, ho0, hb⟩; refine ⟨_, rfl, ?_⟩; have n0_ := aM_ (Kd.R_elder' (rZ_ HO478.out) (Kd.R_base ho0) hb); have n1_ := aM_ (Kd.R_lower (Kd.R_new' ho0 (Kd.R_lt (rZ_ HO478.out))) (bZ_ (bZ0_ HB.out))); have n2_ := aM_ (bT_ (bZ0_ HB.out) hb); clear HO478; clear HB; have HO478 := n0_; have HO481 := n1_; have HB := n2_; clear n0_ n1_ n2_; (try clear hb); (try clear hb2); (try clear hk); (try clear hi); (try clear ho0); obtain ⟨Ao10, co10, eo10⟩ := Kd.R_slice HO481.out; subst eo10) | ((with_reducible refine gate_builtin (b := .append) (xs := #[.tmp 7, .tmp 9]) rfl ?_); at_builtin; refine Kd.R_append_rows (Kd.int .u8) (w0 := w) w.heap.size rfl (.tmp 7) (.tmp 9) 22 5 (.int .u8 0) 1 rfl Tryd.underlying22 info5 rfl (by decide) (by omega) v477 y476 t479 _ _ _ (fun k_ => some k_ ≠ (.slice Ao10 t479.length co10 : Value).ownBlock) (fun _ => False) rfl rfl ?aO ?aR (fun _ _ h => h) (fun _ h => h.elim) ?aF ?aB ?aS ?aL ?_; (case aR => repeat (first | exact (rR_ HO481.out).2.2 | (with_reducible refine Kd.C_alloc ?_ _) | (with_reducible refine Kd.C_drewN ?_ _) | (with_reducible refine Kd.C_drew ?_))); (case aB => exact (bZ0_ HB.out)); (case aF => exact (fun k_ hk => Kd.fresh' (Kd.R_lt (rZ_ HO481.out)) k_ hk)); (case aO => exact (by (with_reducible repeat (first | apply rA_ | apply rN_ | apply rD_)); exact Kd.R_mono HO478.out (fun _ hk => hk.2))); (case aS => exact (bZ_ (bZ0_ HB.out))); (case aL => have := LMc4.out; omega); intro v483 w9 ho hb hg hat; rw [← Ny482.out] at ho; have n0_ := aM_ (Kd.R_after (ok := (fun _ => True)) (rZ_ HO481.out) hg hat); have n1_ := aM_ (hb); have n2_ := aM_ (ho); clear HO481; clear HB; clear HO478; have HO481 := n0_; have HB := n1_; have HO484 := n2_; clear n0_ n1_ n2_; clear ho hb hg hat; obtain ⟨Ao11, co11, eo11⟩ := Kd.R_slice HO484.out; subst eo11) | ((with_reducible refine gate_callee (f := 40) rfl ?_); refine goesL_ (some 11) rfl rfl Tryd.func40 (by kernel_rfl) rfl #[.slice Ao11 y482.length co11] rfl (by (try simp only [mA_, mC_, mN_]); first | done | rfl | (simp only [lD_, lT_]; rfl)) ?_; (with_reducible refine (q03_Bytes.calls k _ _ y482 t485 _ ?side1 ?side2 A5.out).mono ?_); (case side1 => repeat (first | exact (rR_ HO484.out).2.2 | (with_reducible refine Kd.C_alloc ?_ _) | (with_reducible refine Kd.C_drewN ?_ _) | (with_reducible refine Kd.C_drew ?_))); (case side2 => exact (rR_ HO484.out).2.1); rintro e w12 ⟨v486, rfl, ho0, hb⟩; refine ⟨_, rfl, ?_⟩; have n0_ := aM_ (Kd.R_elder' (rZ_ HO481.out) (Kd.R_base ho0) hb); have n1_ := aM_ (Kd.R_elder' (rZ_ HO484.out) (Kd.R_base ho0) hb); have n2_ := aM_ (Kd.R_lower (Kd.R_new' (Kd.R_new' ho0 (Kd.R_lt (rZ_ HO481.out))) (Kd.R_lt (rZ_ HO484.out))) (bZ_ (bZ0_ HB.out))); have n3_ := aM_ (bT_ (bZ0_ HB.out) hb); clear HO481; clear HO484; clear HB; have HO481 := n0_; have HO484 := n1_; have HO487 := n2_; have HB := n3_; clear n0_ n1_ n2_ n3_; (try clear hb); (try clear hb2); (try clear hk); (try clear hi); (try clear ho0)))
   go_ret; (exact ⟨_, by first | rfl | (simp [errW_none, errW_some] <;> rfl) | (simp [*, errW_none, errW_some] <;> rfl), by (with_reducible repeat (first | apply rA_ | apply rN_ | apply rD_)); exact Kd.R_mono HO487.out (fun _ hk => trivial), by exact bZ0_ HB.out⟩)
 (· rw [if_neg c4] at H; exact absurd H (by simp))
end Go.Proofs.YtbnkcbfhappgnaaDoor.Fn
