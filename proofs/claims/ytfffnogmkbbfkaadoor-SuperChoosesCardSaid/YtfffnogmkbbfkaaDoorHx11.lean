import Derived.Test.YtfffnogmkbbfkaaDoorHx0
import Derived.Test.YtfffnogmkbbfkaaDoorHx10
namespace Go.Proofs.YtfffnogmkbbfkaaDoor.Fn
set_option maxHeartbeats 8000000
set_option maxRecDepth 100000
open Go.RowKit Go.Proofs.YtfffnogmkbbfkaaDoorW.PrintWords Go.Proofs.YtfffnogmkbbfkaaDoorW.PrintLast Go.Proofs.YtfffnogmkbbfkaaDoorW.PrintMore
attribute [local go_sem] max2_int min2_int max_two min_two max_three min_three max_four min_four
set_option linter.unusedVariables false
set_option linter.unusedSimpArgs false
def q07_Bytes.l0 : Nat → ByteArray → List Int → Int → Option (List Int × Int)
  | 0, _, _, _ => none
  | k + 1, x0, x4, x5 => if x5 < 64 then (if 0 ≤ x5 then (if x5 < (x0.size : Int) then ((q07_digit.f k (bt x0 x5)).bind fun t441 => (if 0 ≤ (wrap64 (x5 + 1)) then (if (wrap64 (x5 + 1)) < (x0.size : Int) then ((q07_digit.f k (bt x0 (wrap64 (x5 + 1)))).bind fun t442 => (if t441 < 0 then (some (([] : List Int), 70)) else (if t442 < 0 then (some (([] : List Int), 70)) else (if x4.length < 140737488355328 then (q07_Bytes.l0 k x0 (x4 ++ [(wrap64 ((wrap64 (16 * t441)) + t442)) % 256]) (wrap64 (x5 + 2))) else (none))))) else (none)) else (none))) else (none)) else (none)) else (some (x4, 0))
def q07_Bytes.f (k : Nat) (a0 : ByteArray) : Option (List Int × Int) := if (a0.size : Int) = 64 then (q07_Bytes.l0 k a0 ([] : List Int) 0) else (some (([] : List Int), 70))
theorem q07_Bytes.mono_l : ∀ k, (∀ y0 y1 y2, LeO (q07_Bytes.l0 k y0 y1 y2) (q07_Bytes.l0 (k + 1) y0 y1 y2))
  | 0 => fun _ _ _ r h => by simp [q07_Bytes.l0] at h
  | k + 1 => by
    have ih0 := q07_Bytes.mono_l k
    · intro y0 y1 y2
      unfold q07_Bytes.l0
      repeat' first
      | (with_reducible exact ih0 _ _ _)
      | (with_reducible exact q07_digit.mono _ _)
      | (with_reducible exact LeO.refl _)
      | (with_reducible exact LeO.none _)
      | (with_reducible refine LeO.ite ?_ ?_)
      | (with_reducible refine LeO.bind ?_ (fun _ => ?_))
      | exact ih0 _ _ _
      | exact LeO.none _
      | refine LeO.ite ?_ ?_
      | refine LeO.bind ?_ (fun _ => ?_)
theorem q07_Bytes.mono : ∀ a0 k, LeO (q07_Bytes.f k a0) (q07_Bytes.f (k + 1) a0) := by
 intro a0 k; have ih0 := q07_Bytes.mono_l k; unfold q07_Bytes.f
 repeat' first
     | (with_reducible exact ih0 _ _ _)
     | (with_reducible exact q07_digit.mono _ _)
     | (with_reducible exact LeO.refl _)
     | (with_reducible exact LeO.none _)
     | (with_reducible refine LeO.ite ?_ ?_)
     | (with_reducible refine LeO.bind ?_ (fun _ => ?_))
     | exact ih0 _ _ _
     | exact LeO.none _
     | refine LeO.ite ?_ ?_
     | refine LeO.bind ?_ (fun _ => ?_)
theorem q07_Bytes.calls (k : Nat) (a0 : ByteArray) (r1 : List Int) (r2 : Int) (w : World) (h : q07_Bytes.f k a0 = some (r1, r2)) :
    Calls Tryd.prog 28 #[.string a0] w fun e w' => ∃ v0_ : Value, e = .returned (.tuple #[v0_, .int .i64 r2]) ∧ Kd.R (Kd.int .u8) 5 w' w.heap.size (fun _ => True) v0_ r1 ∧ Below w.heap.size w w' := by
 have HB := aM_ (Below.refl w.heap.size w); have H : (if (a0.size : Int) = 64 then (q07_Bytes.l0 k a0 ([] : List Int) 0) else (some (([] : List Int), 70))) = some (r1, r2) := h; clear h; (by_cases c2 : (a0.size : Int) = 64)
 · rw [if_pos c2] at H
   have c2b0 : ((a0.size : Int) == 64) = true := beq_iff_eq.mpr c2; have c2b1 : ((a0.size : Int) != 64) = false := bne_eq_false_iff_eq.mpr c2; clear c2; have H' := aM_ H; clear H; (go_enter Tryd.func28, Tryd.ntmps28); go_wp2
   repeat (go_quiet (fail); try go_wp2)
   (go_loopg [4, 5] k (fun kq v4 v5 w' => ∃ (x4_1 : List Int) (x5_1 : Int), v5 = .int .i64 x5_1 ∧ Aside0 (q07_Bytes.l0 kq a0 x4_1 x5_1 = some (r1, r2)) ∧ Aside0 (kq ≤ k) ∧ Aside0 (Kd.R (Kd.int .u8) 5 w' w.heap.size (fun _ => True) v4 x4_1) ∧ Aside0 (Below w.heap.size w w')))
   case atStart => exact ⟨(([] : List Int)), (0), (by first | rfl | (simp; done) | (simp [*]; done)), H', ⟨Nat.le_refl _⟩, ⟨by first | exact Kd.R_nil _ _ _ _ _ | exact Kd.N_nil _ _ _ _ _ | exact Kd.V_nil _ _ _ _ _ | exact Kd.Q_nil _ _ _ _ _ | exact Kd.S_nil _ _ _ _ _⟩, ⟨bZ0_ HB.out⟩⟩
   case round =>
    clear H'; (try clear c2); (try clear c2b0); (try clear c2b1); (try clear p2); obtain ⟨x4_1, x5_1, rfl, HA, HK1, HO_4, HB⟩ := hrel
    cases gk with
    | zero => exact absurd HA.out (by simp [q07_Bytes.l0])
    | succ k1 =>
     have H := HA.out; clear HA; simp only [q07_Bytes.l0] at H; (by_cases c3 : x5_1 < 64)
     · rw [if_pos c3] at H
       have c3b0 : decide (x5_1 < 64) = true := dT_ c3; clear c3; (by_cases c4 : 0 ≤ x5_1)
       · rw [if_pos c4] at H
         have c4b0 : decide (0 ≤ x5_1) = true := dT_ c4; clear c4; (by_cases c5 : x5_1 < (a0.size : Int))
         · rw [if_pos c5] at H
           have c5b0 : decide (x5_1 < (a0.size : Int)) = true := dT_ c5; clear c5; replace H := Option.bind_eq_some_iff.mp H; obtain ⟨t441, A70, H⟩ := H; replace H : (if 0 ≤ (wrap64 (x5_1 + 1)) then (if (wrap64 (x5_1 + 1)) < (a0.size : Int) then ((q07_digit.f k1 (bt a0 (wrap64 (x5_1 + 1)))).bind fun t442 => (if t441 < 0 then (some (([] : List Int), 70)) else (if t442 < 0 then (some (([] : List Int), 70)) else (if x4_1.length < 140737488355328 then (q07_Bytes.l0 k1 a0 (x4_1 ++ [(wrap64 ((wrap64 (16 * t441)) + t442)) % 256]) (wrap64 (x5_1 + 2))) else (none))))) else (none)) else (none)) = some (r1, r2) := H; have A7 := aM_ A70; clear A70; obtain ⟨ji8, hji8⟩ : ∃ j_ : Int, (wrap64 (x5_1 + 1)) = j_ := ⟨_, rfl⟩; (replace H : (if 0 ≤ (ji8) then (if (ji8) < (a0.size : Int) then ((q07_digit.f k1 (bt a0 (ji8))).bind fun t442 => (if t441 < 0 then (some (([] : List Int), 70)) else (if t442 < 0 then (some (([] : List Int), 70)) else (if x4_1.length < 140737488355328 then (q07_Bytes.l0 k1 a0 (x4_1 ++ [(wrap64 ((wrap64 (16 * t441)) + t442)) % 256]) (wrap64 (x5_1 + 2))) else (none))))) else (none)) else (none)) = some (r1, r2) := by first | (rw [hji8] at H; exact H) | (simp only [hji8] at H ⊢; exact H)); (try rw [hji8] at A7); have hji8w : (IntKind.i64.wrap (x5_1 + 1)) = ji8 := (i64_w _).trans hji8; (by_cases c9 : 0 ≤ (ji8))
           · rw [if_pos c9] at H
             have c9b0 : decide (0 ≤ (ji8)) = true := dT_ c9; clear c9; (by_cases c10 : (ji8) < (a0.size : Int))
             · rw [if_pos c10] at H
               have c10b0 : decide ((ji8) < (a0.size : Int)) = true := dT_ c10; clear c10; replace H := Option.bind_eq_some_iff.mp H; obtain ⟨t442, A120, H⟩ := H; replace H : (if t441 < 0 then (some (([] : List Int), 70)) else (if t442 < 0 then (some (([] : List Int), 70)) else (if x4_1.length < 140737488355328 then (q07_Bytes.l0 k1 a0 (x4_1 ++ [(wrap64 ((wrap64 (16 * t441)) + t442)) % 256]) (wrap64 (x5_1 + 2))) else (none)))) = some (r1, r2) := H; have A12 := aM_ A120; clear A120; (by_cases c13 : t441 < 0)
               · rw [if_pos c13] at H
                 have c13b0 : decide (t441 < 0) = true := dT_ c13; clear c13; simp only [oI_, pI_] at H; obtain ⟨rfl, rfl⟩ := H; have p6 : 0 ≤ (x5_1 : Int) := oD_ (by assumption); have q6 : x5_1 < (a0.size : Int) := oD_ (by assumption); have hx6 := bt_at a0 x5_1; replace p6 := eq_true p6; replace q6 := eq_true q6; (go_wp2_with (first | (go_at_call 43; (with_reducible refine (q07_digit.calls k1 (bt a0 x5_1) t441 _ A7.out).mono ?_); rintro e w' ⟨rfl, ⟨nd, rfl⟩⟩; (try first | exact ⟨rfl, _, World.drewN_drewN _ _ _⟩ | exact ⟨rfl, _, Eq.trans (World.drewN_drewN _ _ _) (congrArg (World.drewN _) (Nat.add_assoc _ _ _))⟩); have p11 : 0 ≤ ((ji8) : Int) := oD_ (by assumption); have q11 : (ji8) < (a0.size : Int) := oD_ (by assumption); have hx11 := bt_at a0 (ji8); replace p11 := eq_true p11; replace q11 := eq_true q11) | (go_at_call 43; (with_reducible refine (q07_digit.calls k1 (bt a0 (ji8)) t442 _ A12.out).mono ?_); rintro e w' ⟨rfl, ⟨nd, rfl⟩⟩; (try first | exact ⟨rfl, _, World.drewN_drewN _ _ _⟩ | exact ⟨rfl, _, Eq.trans (World.drewN_drewN _ _ _) (congrArg (World.drewN _) (Nat.add_assoc _ _ _))⟩))))
                 repeat (go_quiet (first | (go_at_call 43; (with_reducible refine (q07_digit.calls k1 (bt a0 x5_1) t441 _ A7.out).mono ?_); rintro e w' ⟨rfl, ⟨nd, rfl⟩⟩; (try first | exact ⟨rfl, _, World.drewN_drewN _ _ _⟩ | exact ⟨rfl, _, Eq.trans (World.drewN_drewN _ _ _) (congrArg (World.drewN _) (Nat.add_assoc _ _ _))⟩); have p11 : 0 ≤ ((ji8) : Int) := oD_ (by assumption); have q11 : (ji8) < (a0.size : Int) := oD_ (by assumption); have hx11 := bt_at a0 (ji8); replace p11 := eq_true p11; replace q11 := eq_true q11) | (go_at_call 43; (with_reducible refine (q07_digit.calls k1 (bt a0 (ji8)) t442 _ A12.out).mono ?_); rintro e w' ⟨rfl, ⟨nd, rfl⟩⟩; (try first | exact ⟨rfl, _, World.drewN_drewN _ _ _⟩ | exact ⟨rfl, _, Eq.trans (World.drewN_drewN _ _ _) (congrArg (World.drewN _) (Nat.add_assoc _ _ _))⟩))); try go_wp2_with (first | (go_at_call 43; (with_reducible refine (q07_digit.calls k1 (bt a0 x5_1) t441 _ A7.out).mono ?_); rintro e w' ⟨rfl, ⟨nd, rfl⟩⟩; (try first | exact ⟨rfl, _, World.drewN_drewN _ _ _⟩ | exact ⟨rfl, _, Eq.trans (World.drewN_drewN _ _ _) (congrArg (World.drewN _) (Nat.add_assoc _ _ _))⟩); have p11 : 0 ≤ ((ji8) : Int) := oD_ (by assumption); have q11 : (ji8) < (a0.size : Int) := oD_ (by assumption); have hx11 := bt_at a0 (ji8); replace p11 := eq_true p11; replace q11 := eq_true q11) | (go_at_call 43; (with_reducible refine (q07_digit.calls k1 (bt a0 (ji8)) t442 _ A12.out).mono ?_); rintro e w' ⟨rfl, ⟨nd, rfl⟩⟩; (try first | exact ⟨rfl, _, World.drewN_drewN _ _ _⟩ | exact ⟨rfl, _, Eq.trans (World.drewN_drewN _ _ _) (congrArg (World.drewN _) (Nat.add_assoc _ _ _))⟩))))
                 (go_ret2); (exact ⟨_, by first | rfl | (simp [errW_none, errW_some] <;> rfl) | (simp only [← hji8]; first | rfl | (simp [errW_none, errW_some] <;> rfl)) | (simp [*, errW_none, errW_some] <;> rfl), by first | exact Kd.R_nil _ _ _ _ _ | exact Kd.N_nil _ _ _ _ _ | exact Kd.V_nil _ _ _ _ _ | exact Kd.Q_nil _ _ _ _ _ | exact Kd.S_nil _ _ _ _ _, by exact bZ0_ HB.out⟩)
               · rw [if_neg c13] at H
                 have c13b0 : decide (t441 < 0) = false := decide_eq_false c13; clear c13; (by_cases c14 : t442 < 0)
                 · rw [if_pos c14] at H
                   have c14b0 : decide (t442 < 0) = true := dT_ c14; clear c14; simp only [oI_, pI_] at H; obtain ⟨rfl, rfl⟩ := H; have p6 : 0 ≤ (x5_1 : Int) := oD_ (by assumption); have q6 : x5_1 < (a0.size : Int) := oD_ (by assumption); have hx6 := bt_at a0 x5_1; replace p6 := eq_true p6; replace q6 := eq_true q6; (go_wp2_with (first | (go_at_call 43; (with_reducible refine (q07_digit.calls k1 (bt a0 x5_1) t441 _ A7.out).mono ?_); rintro e w' ⟨rfl, ⟨nd, rfl⟩⟩; (try first | exact ⟨rfl, _, World.drewN_drewN _ _ _⟩ | exact ⟨rfl, _, Eq.trans (World.drewN_drewN _ _ _) (congrArg (World.drewN _) (Nat.add_assoc _ _ _))⟩); have p11 : 0 ≤ ((ji8) : Int) := oD_ (by assumption); have q11 : (ji8) < (a0.size : Int) := oD_ (by assumption); have hx11 := bt_at a0 (ji8); replace p11 := eq_true p11; replace q11 := eq_true q11) | (go_at_call 43; (with_reducible refine (q07_digit.calls k1 (bt a0 (ji8)) t442 _ A12.out).mono ?_); rintro e w' ⟨rfl, ⟨nd, rfl⟩⟩; (try first | exact ⟨rfl, _, World.drewN_drewN _ _ _⟩ | exact ⟨rfl, _, Eq.trans (World.drewN_drewN _ _ _) (congrArg (World.drewN _) (Nat.add_assoc _ _ _))⟩))))
                   repeat (go_quiet (first | (go_at_call 43; (with_reducible refine (q07_digit.calls k1 (bt a0 x5_1) t441 _ A7.out).mono ?_); rintro e w' ⟨rfl, ⟨nd, rfl⟩⟩; (try first | exact ⟨rfl, _, World.drewN_drewN _ _ _⟩ | exact ⟨rfl, _, Eq.trans (World.drewN_drewN _ _ _) (congrArg (World.drewN _) (Nat.add_assoc _ _ _))⟩); have p11 : 0 ≤ ((ji8) : Int) := oD_ (by assumption); have q11 : (ji8) < (a0.size : Int) := oD_ (by assumption); have hx11 := bt_at a0 (ji8); replace p11 := eq_true p11; replace q11 := eq_true q11) | (go_at_call 43; (with_reducible refine (q07_digit.calls k1 (bt a0 (ji8)) t442 _ A12.out).mono ?_); rintro e w' ⟨rfl, ⟨nd, rfl⟩⟩; (try first | exact ⟨rfl, _, World.drewN_drewN _ _ _⟩ | exact ⟨rfl, _, Eq.trans (World.drewN_drewN _ _ _) (congrArg (World.drewN _) (Nat.add_assoc _ _ _))⟩))); try go_wp2_with (first | (go_at_call 43; (with_reducible refine (q07_digit.calls k1 (bt a0 x5_1) t441 _ A7.out).mono ?_); rintro e w' ⟨rfl, ⟨nd, rfl⟩⟩; (try first | exact ⟨rfl, _, World.drewN_drewN _ _ _⟩ | exact ⟨rfl, _, Eq.trans (World.drewN_drewN _ _ _) (congrArg (World.drewN _) (Nat.add_assoc _ _ _))⟩); have p11 : 0 ≤ ((ji8) : Int) := oD_ (by assumption); have q11 : (ji8) < (a0.size : Int) := oD_ (by assumption); have hx11 := bt_at a0 (ji8); replace p11 := eq_true p11; replace q11 := eq_true q11) | (go_at_call 43; (with_reducible refine (q07_digit.calls k1 (bt a0 (ji8)) t442 _ A12.out).mono ?_); rintro e w' ⟨rfl, ⟨nd, rfl⟩⟩; (try first | exact ⟨rfl, _, World.drewN_drewN _ _ _⟩ | exact ⟨rfl, _, Eq.trans (World.drewN_drewN _ _ _) (congrArg (World.drewN _) (Nat.add_assoc _ _ _))⟩))))
                   (go_ret2); (exact ⟨_, by first | rfl | (simp [errW_none, errW_some] <;> rfl) | (simp only [← hji8]; first | rfl | (simp [errW_none, errW_some] <;> rfl)) | (simp [*, errW_none, errW_some] <;> rfl), by first | exact Kd.R_nil _ _ _ _ _ | exact Kd.N_nil _ _ _ _ _ | exact Kd.V_nil _ _ _ _ _ | exact Kd.Q_nil _ _ _ _ _ | exact Kd.S_nil _ _ _ _ _, by exact bZ0_ HB.out⟩)
                 · rw [if_neg c14] at H
                   have c14b0 : decide (t442 < 0) = false := decide_eq_false c14; clear c14; (by_cases c15 : x4_1.length < 140737488355328)
                   · rw [if_pos c15] at H
                     have LMc15 := aM_ c15; clear c15; obtain ⟨y443, hy443⟩ : ∃ y_ : List Int, y_ = (x4_1 ++ [(wrap64 ((wrap64 (16 * t441)) + t442)) % 256]) := ⟨_, rfl⟩; (replace H : (q07_Bytes.l0 k1 a0 y443 (wrap64 (x5_1 + 2))) = some (r1, r2) := by first | (rw [hy443]; with_reducible exact H) | (have H2_ := (oB_ _ _).symm.trans H; rw [hy443]; with_reducible exact H2_) | (have H2_ := (oB_ _ _).symm.trans H; with_reducible exact H2_) | with_reducible exact H | (rw [hy443]; exact H) | exact H); have Ny443 := aM_ hy443; clear hy443; have H' := aM_ H; clear H; have p6 : 0 ≤ (x5_1 : Int) := oD_ (by assumption); have q6 : x5_1 < (a0.size : Int) := oD_ (by assumption); have hx6 := bt_at a0 x5_1; replace p6 := eq_true p6; replace q6 := eq_true q6
                     go_wp2_with (first | (go_at_call 43; (with_reducible refine (q07_digit.calls k1 (bt a0 x5_1) t441 _ A7.out).mono ?_); rintro e w' ⟨rfl, ⟨nd, rfl⟩⟩; (try first | exact ⟨rfl, _, World.drewN_drewN _ _ _⟩ | exact ⟨rfl, _, Eq.trans (World.drewN_drewN _ _ _) (congrArg (World.drewN _) (Nat.add_assoc _ _ _))⟩); have p11 : 0 ≤ ((ji8) : Int) := oD_ (by assumption); have q11 : (ji8) < (a0.size : Int) := oD_ (by assumption); have hx11 := bt_at a0 (ji8); replace p11 := eq_true p11; replace q11 := eq_true q11) | (go_at_call 43; (with_reducible refine (q07_digit.calls k1 (bt a0 (ji8)) t442 _ A12.out).mono ?_); rintro e w' ⟨rfl, ⟨nd, rfl⟩⟩; (try first | exact ⟨rfl, _, World.drewN_drewN _ _ _⟩ | exact ⟨rfl, _, Eq.trans (World.drewN_drewN _ _ _) (congrArg (World.drewN _) (Nat.add_assoc _ _ _))⟩)) | ((with_reducible refine gate_builtin (b := .append) (xs := #[.tmp 30, .tmp 36]) rfl ?_); at_builtin; refine Kd.R_append (Kd.int .u8) (w0 := w) w.heap.size rfl (.tmp 30) (.tmp 36) 26 5 (.int .u8 0) 1 rfl Tryd.underlying26 info5 rfl (by decide) (by omega) u4 x4_1 ((wrap64 ((wrap64 (16 * t441)) + t442)) % 256) [.int .u8 ((wrap64 ((wrap64 (16 * t441)) + t442)) % 256)] (fun _ => True) (fun _ => False) rfl rfl ?aP (fun _ hk => hk.elim) ?aF ?aO ?aB ?aS ?aL ?_; (case aP => exact rfl); (case aB => exact (bZ0_ HB.out)); (case aF => exact (fun _ _ => trivial)); (case aO => exact (rZ_ HO_4.out)); (case aS => exact (bZ_ (bZ0_ HB.out))); (case aL => have := LMc15.out; omega); intro v444 w16 ho hb hg hat; rw [← Ny443.out] at ho; have n0_ := aM_ (hb); have n1_ := aM_ (ho); clear HB; clear HO_4; have HB := n0_; have HO445 := n1_; clear n0_ n1_; clear ho hb hg hat))
                     repeat (go_quiet (first | (go_at_call 43; (with_reducible refine (q07_digit.calls k1 (bt a0 x5_1) t441 _ A7.out).mono ?_); rintro e w' ⟨rfl, ⟨nd, rfl⟩⟩; (try first | exact ⟨rfl, _, World.drewN_drewN _ _ _⟩ | exact ⟨rfl, _, Eq.trans (World.drewN_drewN _ _ _) (congrArg (World.drewN _) (Nat.add_assoc _ _ _))⟩); have p11 : 0 ≤ ((ji8) : Int) := oD_ (by assumption); have q11 : (ji8) < (a0.size : Int) := oD_ (by assumption); have hx11 := bt_at a0 (ji8); replace p11 := eq_true p11; replace q11 := eq_true q11) | (go_at_call 43; (with_reducible refine (q07_digit.calls k1 (bt a0 (ji8)) t442 _ A12.out).mono ?_); rintro e w' ⟨rfl, ⟨nd, rfl⟩⟩; (try first | exact ⟨rfl, _, World.drewN_drewN _ _ _⟩ | exact ⟨rfl, _, Eq.trans (World.drewN_drewN _ _ _) (congrArg (World.drewN _) (Nat.add_assoc _ _ _))⟩)) | ((with_reducible refine gate_builtin (b := .append) (xs := #[.tmp 30, .tmp 36]) rfl ?_); at_builtin; refine Kd.R_append (Kd.int .u8) (w0 := w) w.heap.size rfl (.tmp 30) (.tmp 36) 26 5 (.int .u8 0) 1 rfl Tryd.underlying26 info5 rfl (by decide) (by omega) u4 x4_1 ((wrap64 ((wrap64 (16 * t441)) + t442)) % 256) [.int .u8 ((wrap64 ((wrap64 (16 * t441)) + t442)) % 256)] (fun _ => True) (fun _ => False) rfl rfl ?aP (fun _ hk => hk.elim) ?aF ?aO ?aB ?aS ?aL ?_; (case aP => exact rfl); (case aB => exact (bZ0_ HB.out)); (case aF => exact (fun _ _ => trivial)); (case aO => exact (rZ_ HO_4.out)); (case aS => exact (bZ_ (bZ0_ HB.out))); (case aL => have := LMc15.out; omega); intro v444 w16 ho hb hg hat; rw [← Ny443.out] at ho; have n0_ := aM_ (hb); have n1_ := aM_ (ho); clear HB; clear HO_4; have HB := n0_; have HO445 := n1_; clear n0_ n1_; clear ho hb hg hat)); try go_wp2_with (first | (go_at_call 43; (with_reducible refine (q07_digit.calls k1 (bt a0 x5_1) t441 _ A7.out).mono ?_); rintro e w' ⟨rfl, ⟨nd, rfl⟩⟩; (try first | exact ⟨rfl, _, World.drewN_drewN _ _ _⟩ | exact ⟨rfl, _, Eq.trans (World.drewN_drewN _ _ _) (congrArg (World.drewN _) (Nat.add_assoc _ _ _))⟩); have p11 : 0 ≤ ((ji8) : Int) := oD_ (by assumption); have q11 : (ji8) < (a0.size : Int) := oD_ (by assumption); have hx11 := bt_at a0 (ji8); replace p11 := eq_true p11; replace q11 := eq_true q11) | (go_at_call 43; (with_reducible refine (q07_digit.calls k1 (bt a0 (ji8)) t442 _ A12.out).mono ?_); rintro e w' ⟨rfl, ⟨nd, rfl⟩⟩; (try first | exact ⟨rfl, _, World.drewN_drewN _ _ _⟩ | exact ⟨rfl, _, Eq.trans (World.drewN_drewN _ _ _) (congrArg (World.drewN _) (Nat.add_assoc _ _ _))⟩)) | ((with_reducible refine gate_builtin (b := .append) (xs := #[.tmp 30, .tmp 36]) rfl ?_); at_builtin; refine Kd.R_append (Kd.int .u8) (w0 := w) w.heap.size rfl (.tmp 30) (.tmp 36) 26 5 (.int .u8 0) 1 rfl Tryd.underlying26 info5 rfl (by decide) (by omega) u4 x4_1 ((wrap64 ((wrap64 (16 * t441)) + t442)) % 256) [.int .u8 ((wrap64 ((wrap64 (16 * t441)) + t442)) % 256)] (fun _ => True) (fun _ => False) rfl rfl ?aP (fun _ hk => hk.elim) ?aF ?aO ?aB ?aS ?aL ?_; (case aP => exact rfl); (case aB => exact (bZ0_ HB.out)); (case aF => exact (fun _ _ => trivial)); (case aO => exact (rZ_ HO_4.out)); (case aS => exact (bZ_ (bZ0_ HB.out))); (case aL => have := LMc15.out; omega); intro v444 w16 ho hb hg hat; rw [← Ny443.out] at ho; have n0_ := aM_ (hb); have n1_ := aM_ (ho); clear HB; clear HO_4; have HB := n0_; have HO445 := n1_; clear n0_ n1_; clear ho hb hg hat)))
                     (go_roundg k1)
                     case measure => have := HK1.out; omega
                     case rel => exact ⟨(y443), (wrap64 (x5_1 + 2)), (by first | rfl | (simp; done) | (simp [*]; done)), H', ⟨by have := HK1.out; omega⟩, ⟨rZ_ HO445.out⟩, ⟨bZ0_ HB.out⟩⟩
                   (· rw [if_neg c15] at H; exact absurd H (by simp))
             (· rw [if_neg c10] at H; exact absurd H (by simp))
           (· rw [if_neg c9] at H; exact absurd H (by simp))
         (· rw [if_neg c5] at H; exact absurd H (by simp))
       (· rw [if_neg c4] at H; exact absurd H (by simp))
     · rw [if_neg c3] at H
       have c3b0 : decide (x5_1 < 64) = false := decide_eq_false c3; clear c3; simp only [oI_, pI_] at H; obtain ⟨rfl, rfl⟩ := H; go_wp2
       repeat (go_quiet (fail); try go_wp2)
       (go_ret2); (exact ⟨_, by first | rfl | (simp [errW_none, errW_some] <;> rfl) | (simp [*, errW_none, errW_some] <;> rfl), by exact rZ_ HO_4.out, by exact bZ0_ HB.out⟩)
 · rw [if_neg c2] at H
   have c2b0 : ((a0.size : Int) == 64) = false := beq_eq_false_iff_ne.mpr c2; have c2b1 : ((a0.size : Int) != 64) = true := bne_iff_ne.mpr c2; simp only [oI_, pI_] at H; obtain ⟨rfl, rfl⟩ := H; (go_enter Tryd.func28, Tryd.ntmps28); go_wp2
   repeat (go_quiet (fail); try go_wp2)
   (go_ret2); (exact ⟨_, by first | rfl | (simp [errW_none, errW_some] <;> rfl) | (simp [*, errW_none, errW_some] <;> rfl), by first | exact Kd.R_nil _ _ _ _ _ | exact Kd.N_nil _ _ _ _ _ | exact Kd.V_nil _ _ _ _ _ | exact Kd.Q_nil _ _ _ _ _ | exact Kd.S_nil _ _ _ _ _, by exact bZ0_ HB.out⟩)
theorem ref07_digit_all : ∀ c : Fin 256, q07_digit.f 17 (c.1 : Int) = some (if digs.contains (UInt8.ofNat c.1) then dg (UInt8.ofNat c.1) else -1) := by decide +kernel
theorem ref07_digit_ev (s : ByteArray) (i : Nat) (hi : i < s.size) : Ev (fun k => q07_digit.f k (bt s (i : Int))) (if digs.contains (s.data.toList.getD i 0) then dg (s.data.toList.getD i 0) else -1) := by
 have hb : bt s (i : Int) = ((s.data.toList.getD i 0).toNat : Int) := by
  (have hi' : i < s.data.toList.length := by rw [Array.length_toList]; exact hi); rw [List.getD_eq_getElem?_getD, List.getElem?_eq_getElem hi']; unfold bt; rw [dif_pos (by simpa using hi)]; simp; rfl
 rw [hb]; have h := ref07_digit_all ⟨(s.data.toList.getD i 0).toNat, UInt8.toNat_lt _⟩; simp only [UInt8.ofNat_toNat] at h; exact Ev.of (q07_digit.mono _) h
def keyTo (l : List UInt8) (j : Nat) : List Int := (List.range j).map fun i => 16 * dg (l.getD (2 * i) 0) + dg (l.getD (2 * i + 1) 0)
theorem keyTo_succ (l : List UInt8) (j : Nat) : keyTo l (j + 1) = keyTo l j ++ [16 * dg (l.getD (2 * j) 0) + dg (l.getD (2 * j + 1) 0)] := by simp [keyTo, List.range_succ]
theorem keyTo_key (s : ByteArray) : keyTo s.data.toList 32 = keyRow s := by
 unfold keyTo keyRow keyAt; apply List.map_congr_left; intro j hj; have := List.mem_range.1 hj; rw [if_pos (by omega), if_pos (by omega)]
theorem ref07_Bytes_loop (s : ByteArray) (hs : s.size = 64) (d : Nat) : ∀ j : Nat, j + d = 32 → (∀ i, i < 2 * j → digs.contains (s.data.toList.getD i 0) = true) →
    Ev (fun k => q07_Bytes.l0 k s (keyTo s.data.toList j) ((2 * j : Nat) : Int)) (if isKey s then (keyRow s, 0) else ([], 70)) := by
 (have hl : s.data.toList.length = 64 := by rw [Array.length_toList]; exact hs)
 induction d with
 | zero =>
  intro j hj hd; (obtain rfl : j = 32 := by omega)
  have hk : isKey s = true := by
   unfold isKey; rw [dT_ hs, Bool.true_and, List.all_eq_true]; intro x hx; obtain ⟨i, hi, rfl⟩ := List.mem_iff_getElem.1 hx; have := hd i (by omega); (rwa [List.getD_eq_getElem?_getD, List.getElem?_eq_getElem hi] at this)
  rw [if_pos hk, keyTo_key]; refine Ev.step (f := fun _ => some (keyRow s, 0)) (fun k => ?_) (Ev.now _); simp only [q07_Bytes.l0]; rw [if_neg (by omega)]
 | succ d ih =>
  intro j hj hd
  have no : ∀ i, i < 64 → ¬ digs.contains (s.data.toList.getD i 0) = true → isKey s = false := fun i hi hx => by
   unfold isKey
   cases ha : s.data.toList.all (digs.contains ·) with
   | false => rw [Bool.and_false]
   | true =>
    have := List.all_eq_true.1 ha (s.data.toList.getD i 0) (by rw [List.getD_eq_getElem?_getD, List.getElem?_eq_getElem (by omega)]; exact List.getElem_mem _); exact absurd this hx
  (have e1 : wrap64 (((2 * j : Nat) : Int) + 1) = ((2 * j + 1 : Nat) : Int) := by unfold wrap64; omega); (have e2 : wrap64 (((2 * j : Nat) : Int) + 2) = ((2 * (j + 1) : Nat) : Int) := by unfold wrap64; omega); refine Ev.step (fun k => ?_) (?_ : Ev (fun k => (q07_digit.f k (bt s ((2 * j : Nat) : Int))).bind fun t283 => (q07_digit.f k (bt s ((2 * j + 1 : Nat) : Int))).bind fun t284 => (if t283 < 0 then (some (([] : List Int), 70)) else (if t284 < 0 then (some (([] : List Int), 70)) else (if (keyTo s.data.toList j).length < 140737488355328 then (q07_Bytes.l0 k s (keyTo s.data.toList j ++ [(wrap64 ((wrap64 (16 * t283)) + t284)) % 256]) ((2 * (j + 1) : Nat) : Int)) else (none))))) _)
  · simp only [q07_Bytes.l0]
    rw [if_pos (by omega), if_pos (by omega), if_pos (by omega), e1, e2]
    congr 1; funext t; rw [if_pos (by omega), if_pos (by omega)]
  · refine Ev.bind (ref07_digit_ev s (2 * j) (by omega)) (Ev.bind (ref07_digit_ev s (2 * j + 1) (by omega)) ?_)
    (by_cases h0 : digs.contains (s.data.toList.getD (2 * j) 0) = true)
    · have r0 := dg_range _ h0
      rw [if_pos h0]; (by_cases h1 : digs.contains (s.data.toList.getD (2 * j + 1) 0) = true)
      · have r1 := dg_range _ h1
        rw [if_pos h1]
        have hv : (wrap64 ((wrap64 (16 * dg (s.data.toList.getD (2 * j) 0))) + dg (s.data.toList.getD (2 * j + 1) 0))) % 256 = 16 * dg (s.data.toList.getD (2 * j) 0) + dg (s.data.toList.getD (2 * j + 1) 0) := by
         generalize dg (s.data.toList.getD (2 * j) 0) = p at *; generalize dg (s.data.toList.getD (2 * j + 1) 0) = q at *; unfold wrap64; omega
        refine Ev.congr (fun k => ?_) (ih (j + 1) (by omega) (fun i hi => ?_)); (· rw [if_neg (by omega), if_neg (by omega), if_pos (by simp [keyTo]; omega), hv, keyTo_succ]); (· (by_cases e : i < 2 * j); (· exact hd i e); (· (by_cases e' : i = 2 * j); (· subst e'; exact h0); (· (obtain rfl : i = 2 * j + 1 := by omega); exact h1)))
      (· rw [if_neg h1, no _ (by omega) h1]; refine Ev.congr (fun k => ?_) (Ev.now _); rw [if_neg (by omega), if_pos (by omega)]; rfl)
    (· rw [if_neg h0, no _ (by omega) h0]; refine Ev.congr (fun k => ?_) (Ev.now _); rw [if_pos (by omega)]; rfl)
theorem ref07_Bytes_ev (s : ByteArray) : Ev (fun k => q07_Bytes.f k s) (if isKey s then (keyRow s, 0) else ([], 70)) := by
 (by_cases hs : s.size = 64); (· refine Ev.congr (fun k => ?_) (ref07_Bytes_loop s hs 32 0 (by omega) (fun i hi => by omega)); unfold q07_Bytes.f; rw [if_pos (by omega)]; rfl); (· (have hk : isKey s = false := by unfold isKey; rw [decide_eq_false hs, Bool.false_and]); rw [hk]; refine Ev.congr (fun k => ?_) (Ev.now _); unfold q07_Bytes.f; rw [if_neg (by omega)]; rfl)
def q07_Check.f (k : Nat) (a0 : ByteArray) : Option (Bool) := (q07_Bytes.f k a0).bind fun bt446 => (some (bt446.2 == 0))
theorem q07_Check.mono : ∀ a0 k, LeO (q07_Check.f k a0) (q07_Check.f (k + 1) a0) := by
 intro a0 k; unfold q07_Check.f
 repeat' first
     | (with_reducible exact q07_Bytes.mono _ _)
     | (with_reducible exact LeO.refl _)
     | (with_reducible exact LeO.none _)
     | (with_reducible refine LeO.ite ?_ ?_)
     | (with_reducible refine LeO.bind ?_ (fun _ => ?_))
     | exact LeO.none _
     | refine LeO.ite ?_ ?_
     | refine LeO.bind ?_ (fun _ => ?_)
theorem q07_Check.calls (k : Nat) (a0 : ByteArray) (r : Bool) (w : World) (h : q07_Check.f k a0 = some r) :
    Calls Tryd.prog 42 #[.string a0] w fun e w' => e = .returned (.bool r) ∧ Below w.heap.size w w' := by
 have HB := aM_ (Below.refl w.heap.size w); have H : ((q07_Bytes.f k a0).bind fun bt446 => (some (bt446.2 == 0))) = some r := h; clear h; replace H := Option.bind_eq_some_iff.mp H; obtain ⟨⟨t446, t447⟩, A20, H⟩ := H; replace H : (some (t447 == 0)) = some r := H; have A2 := aM_ A20; clear A20; obtain rfl := oJ_ H; simp only [oI_, pI_] at H; obtain ⟨rfl⟩ := H; (go_enter Tryd.func42, Tryd.ntmps42); (go_wp2_with (first | ((with_reducible refine gate_callee (f := 28) rfl ?_); refine goesL_ (some 7) rfl rfl Tryd.func28 (by kernel_rfl) rfl #[.string a0] rfl (by (try simp only [mA_, mC_, mN_]); first | done | rfl | (simp only [lD_, lT_]; rfl)) ?_; (with_reducible refine (q07_Bytes.calls k a0 t446 t447 _ A2.out).mono ?_); rintro e w3 ⟨v448, rfl, ho0, hb⟩; refine ⟨_, rfl, ?_⟩; have n0_ := aM_ (Kd.R_lower ho0 (bZ_ (bZ0_ HB.out))); have n1_ := aM_ (bT_ (bZ0_ HB.out) hb); clear HB; have HO449 := n0_; have HB := n1_; clear n0_ n1_; (try clear hb); (try clear hb2); (try clear hk); (try clear hi); (try clear ho0)))); go_ret; (exact ⟨by first | rfl | (simp [errW_none, errW_some] <;> rfl) | (simp [*, errW_none, errW_some] <;> rfl), by exact bZ0_ HB.out⟩)
theorem ref07_Check_ev (s : ByteArray) : Ev (fun k => q07_Check.f k s) (isKey s) := by
 refine Ev.congr (fun k => ?_) (Ev.bind (f := fun _ b => some (b.2 == 0)) (ref07_Bytes_ev s) ?_); (· unfold q07_Check.f; rfl); (· (cases h : isKey s); (· exact Ev.now _); (· exact Ev.now _))
def q11_Super.l0 : Nat → Int → Int → ByteArray → List Int → Option (Bool)
  | 0, _, _, _, _ => none
  | k + 1, x3, x451000, x451001, x451002 => if x3 < (x451002.length : Int) then (if 0 ≤ x3 then (if (rd x451002 x3) < 0 then (some false) else (if (rd x451002 x3) ≥ 62 then (some false) else (if x3 > 0 then (if 0 ≤ (wrap64 (x3 - 1)) then (if (wrap64 (x3 - 1)) < (x451002.length : Int) then (if (rd x451002 x3) ≤ (rd x451002 (wrap64 (x3 - 1))) then (some false) else (q11_Super.l0 k (wrap64 (x3 + 1)) x451000 x451001 x451002)) else (none)) else (none)) else (q11_Super.l0 k (wrap64 (x3 + 1)) x451000 x451001 x451002)))) else (none)) else (if x451000 ≥ 1 then (if x451000 ≤ 4611686018427387903 then ((q07_Check.f k x451001).bind fun t455 => (some t455)) else (some false)) else (some false))
def q11_Super.f (k : Nat) (a0_0 : Int) (a0_1 : ByteArray) (l0_2 : List Int) : Option (Bool) := q11_Super.l0 k 0 a0_0 a0_1 l0_2
theorem q11_Super.mono_l : ∀ k, (∀ y0 y1 y2 y3, LeO (q11_Super.l0 k y0 y1 y2 y3) (q11_Super.l0 (k + 1) y0 y1 y2 y3))
  | 0 => fun _ _ _ _ r h => by simp [q11_Super.l0] at h
  | k + 1 => by
    have ih0 := q11_Super.mono_l k
    · intro y0 y1 y2 y3
      unfold q11_Super.l0
      repeat' first
      | (with_reducible exact ih0 _ _ _ _)
      | (with_reducible exact q07_Check.mono _ _)
      | (with_reducible exact LeO.refl _)
      | (with_reducible exact LeO.none _)
      | (with_reducible refine LeO.ite ?_ ?_)
      | (with_reducible refine LeO.bind ?_ (fun _ => ?_))
      | exact ih0 _ _ _ _
      | exact LeO.none _
      | refine LeO.ite ?_ ?_
      | refine LeO.bind ?_ (fun _ => ?_)
theorem q11_Super.mono : ∀ a0 a1 a2 k, LeO (q11_Super.f k a0 a1 a2) (q11_Super.f (k + 1) a0 a1 a2) := by
 intro a0 a1 a2 k; have ih0 := q11_Super.mono_l k; unfold q11_Super.f
 repeat' first
     | (with_reducible exact ih0 _ _ _ _)
     | (with_reducible exact q07_Check.mono _ _)
     | (with_reducible exact LeO.refl _)
     | (with_reducible exact LeO.none _)
     | (with_reducible refine LeO.ite ?_ ?_)
     | (with_reducible refine LeO.bind ?_ (fun _ => ?_))
     | exact ih0 _ _ _ _
     | exact LeO.none _
     | refine LeO.ite ?_ ?_
     | refine LeO.bind ?_ (fun _ => ?_)
theorem q11_Super.calls (k : Nat) (a0_0 : Int) (a0_1 : ByteArray) (A0_2 : Option Addr) (c0_2 : Nat) (l0_2 : List Int) (r : Bool) (w : World) (hr0_2 : Kd.C (Kd.int .i64) w A0_2 l0_2.length l0_2) (hc0_2 : l0_2.length ≤ c0_2) (h : q11_Super.f k a0_0 a0_1 l0_2 = some r) :
    Calls Tryd.prog 27 #[.agg #[.int .i64 a0_0, .string a0_1, .slice A0_2 l0_2.length c0_2]] w fun e w' => e = .returned (.bool r) ∧ Below w.heap.size w w' := by
 have hu25 := Tryd.underlying25; have HR0_2 := aM_ hr0_2; have HC0_2 := aM_ hc0_2; clear hr0_2 hc0_2; have HB := aM_ (Below.refl w.heap.size w); have H : (q11_Super.l0 k 0 a0_0 a0_1 l0_2) = some r := h; clear h; have H' := aM_ H; clear H; (go_enter Tryd.func27, Tryd.ntmps27); (go_wp2_with (first | ((with_reducible refine gate_dst (N := 1) rfl ?_); refine box_event ?hg (N := 1) ?hd (cs := #[.int .i64 a0_0, .string a0_1, .slice A0_2 l0_2.length c0_2]) (t := 25) ?hr ?_; (case hd => rfl); (case hg => rfl); (case hr => first | (go_simp; done) | (go_simp; rfl)); intro gb450 hg w2 hbox hb; have n0_ := aM_ (bT_ (bZ0_ HB.out) hb); have n1_ := aM_ (hbox); have n2_ := aM_ ((by rw [hg]; exact (bZ_ (bZ0_ HB.out)) : w.heap.size ≤ gb450)); have n3_ := aM_ ((by rw [hg]; exact (bZ_ (bZ0_ HB.out)) : w.heap.size ≤ gb450)); clear HB; have HB := n0_; have BK450 := n1_; have GW450 := n2_; have GE450 := n3_; clear n0_ n1_ n2_ n3_; clear hb hbox hg)))
 repeat (go_quiet (first | ((with_reducible refine gate_dst (N := 1) rfl ?_); refine box_event ?hg (N := 1) ?hd (cs := #[.int .i64 a0_0, .string a0_1, .slice A0_2 l0_2.length c0_2]) (t := 25) ?hr ?_; (case hd => rfl); (case hg => rfl); (case hr => first | (go_simp; done) | (go_simp; rfl)); intro gb450 hg w2 hbox hb; have n0_ := aM_ (bT_ (bZ0_ HB.out) hb); have n1_ := aM_ (hbox); have n2_ := aM_ ((by rw [hg]; exact (bZ_ (bZ0_ HB.out)) : w.heap.size ≤ gb450)); have n3_ := aM_ ((by rw [hg]; exact (bZ_ (bZ0_ HB.out)) : w.heap.size ≤ gb450)); clear HB; have HB := n0_; have BK450 := n1_; have GW450 := n2_; have GE450 := n3_; clear n0_ n1_ n2_ n3_; clear hb hbox hg)); try go_wp2_with (first | ((with_reducible refine gate_dst (N := 1) rfl ?_); refine box_event ?hg (N := 1) ?hd (cs := #[.int .i64 a0_0, .string a0_1, .slice A0_2 l0_2.length c0_2]) (t := 25) ?hr ?_; (case hd => rfl); (case hg => rfl); (case hr => first | (go_simp; done) | (go_simp; rfl)); intro gb450 hg w2 hbox hb; have n0_ := aM_ (bT_ (bZ0_ HB.out) hb); have n1_ := aM_ (hbox); have n2_ := aM_ ((by rw [hg]; exact (bZ_ (bZ0_ HB.out)) : w.heap.size ≤ gb450)); have n3_ := aM_ ((by rw [hg]; exact (bZ_ (bZ0_ HB.out)) : w.heap.size ≤ gb450)); clear HB; have HB := n0_; have BK450 := n1_; have GW450 := n2_; have GE450 := n3_; clear n0_ n1_ n2_ n3_; clear hb hbox hg)))
 (go_loopg [3] k (fun kq v3 w' => ∃ (x3_1 : Int), v3 = .int .i64 x3_1 ∧ Aside0 (q11_Super.l0 kq x3_1 a0_0 a0_1 l0_2 = some r) ∧ Aside0 (kq ≤ k) ∧ Aside0 (w'.heap[gb450]? = some (.cells #[.int .i64 a0_0, .string a0_1, (.slice A0_2 l0_2.length c0_2)] 25 (0, 0))) ∧ Aside0 (Below w.heap.size w w')))
 case atStart => exact ⟨(0), (by first | rfl | (simp; done) | (simp [*]; done)), H', ⟨Nat.le_refl _⟩, ⟨kZ_ BK450.out⟩, ⟨bZ1_ HB.out GE450.out⟩⟩
 case round =>
  clear H'; (try clear c2); (try clear p2); obtain ⟨x3_1, rfl, HA, HK1, BK450, HB⟩ := hrel
  cases gk with
  | zero => exact absurd HA.out (by simp [q11_Super.l0])
  | succ k1 =>
   have H := HA.out; clear HA; simp only [q11_Super.l0] at H; (by_cases c3 : x3_1 < (l0_2.length : Int))
   · rw [if_pos c3] at H
     have c3b0 : decide (x3_1 < (l0_2.length : Int)) = true := dT_ c3; clear c3; (by_cases c4 : 0 ≤ x3_1)
     · rw [if_pos c4] at H
       have c4b0 : decide (0 ≤ x3_1) = true := dT_ c4; clear c4; (by_cases c5 : (rd l0_2 x3_1) < 0)
       · rw [if_pos c5] at H
         have c5b0 : decide ((rd l0_2 x3_1) < 0) = true := dT_ c5; clear c5; obtain rfl := oJ_ H; simp only [oI_, pI_] at H; obtain ⟨rfl⟩ := H; have hcz6_0 := kc0_ BK450.out; have hcz6_1 := kc1_ BK450.out; have hcz6_2 := kc2_ BK450.out; have hfz6_0 := kF_ BK450.out 0; have hfz6_1 := kF_ BK450.out 1; have hfz6_2 := kF_ BK450.out 2; have p451 : 0 ≤ (x3_1 : Int) := oD_ (by assumption); have q451 : x3_1 < (l0_2.length : Int) := oD_ (by assumption); obtain ⟨ad451, e451, hx451_0⟩ := Kd.at_int HR0_2.out x3_1 p451 q451; (cases e451); replace hx451_0 := (HB.out.cell (lC_ w _ hx451_0)).trans hx451_0; replace p451 := eq_true p451; replace q451 := eq_true q451; go_wp2
         repeat (go_quiet (fail); try go_wp2)
         go_ret; (exact ⟨by first | rfl | (simp [errW_none, errW_some] <;> rfl) | (simp [*, errW_none, errW_some] <;> rfl), by exact bZ1_ HB.out GE450.out⟩)
       · rw [if_neg c5] at H
         have c5b0 : decide ((rd l0_2 x3_1) < 0) = false := decide_eq_false c5; clear c5; (by_cases c7 : (rd l0_2 x3_1) ≥ 62)
         · rw [if_pos c7] at H
           have c7b0 : decide (62 ≤ (rd l0_2 x3_1)) = true := dT_ c7; clear c7; obtain rfl := oJ_ H; simp only [oI_, pI_] at H; obtain ⟨rfl⟩ := H; have hcz8_0 := kc0_ BK450.out; have hcz8_1 := kc1_ BK450.out; have hcz8_2 := kc2_ BK450.out; have hfz8_0 := kF_ BK450.out 0; have hfz8_1 := kF_ BK450.out 1; have hfz8_2 := kF_ BK450.out 2; have p451 : 0 ≤ (x3_1 : Int) := oD_ (by assumption); have q451 : x3_1 < (l0_2.length : Int) := oD_ (by assumption); obtain ⟨ad451, e451, hx451_0⟩ := Kd.at_int HR0_2.out x3_1 p451 q451; (cases e451); replace hx451_0 := (HB.out.cell (lC_ w _ hx451_0)).trans hx451_0; replace p451 := eq_true p451; replace q451 := eq_true q451; have p452 : 0 ≤ (x3_1 : Int) := oD_ (by assumption); have q452 : x3_1 < (l0_2.length : Int) := oD_ (by assumption); obtain ⟨ad452, e452, hx452_0⟩ := Kd.at_int HR0_2.out x3_1 p452 q452; obtain rfl : ad451 = ad452 := (by injection e452); replace hx452_0 := (HB.out.cell (lC_ w _ hx452_0)).trans hx452_0; replace p452 := eq_true p452; replace q452 := eq_true q452; go_wp2
           repeat (go_quiet (fail); try go_wp2)
           go_ret; (exact ⟨by first | rfl | (simp [errW_none, errW_some] <;> rfl) | (simp [*, errW_none, errW_some] <;> rfl), by exact bZ1_ HB.out GE450.out⟩)
         · rw [if_neg c7] at H
           have c7b0 : decide (62 ≤ (rd l0_2 x3_1)) = false := decide_eq_false c7; clear c7; (by_cases c9 : x3_1 > 0)
           · rw [if_pos c9] at H
             have c9b0 : decide (0 < x3_1) = true := dT_ c9; clear c9; obtain ⟨ji10, hji10⟩ : ∃ j_ : Int, (wrap64 (x3_1 - 1)) = j_ := ⟨_, rfl⟩; (replace H : (if 0 ≤ (ji10) then (if (ji10) < (l0_2.length : Int) then (if (rd l0_2 x3_1) ≤ (rd l0_2 (ji10)) then (some false) else (q11_Super.l0 k1 (wrap64 (x3_1 + 1)) a0_0 a0_1 l0_2)) else (none)) else (none)) = some r := by first | (rw [hji10] at H; exact H) | (simp only [hji10] at H ⊢; exact H)); have hji10w : (IntKind.i64.wrap (x3_1 - 1)) = ji10 := (i64_w _).trans hji10; (by_cases c11 : 0 ≤ (ji10))
             · rw [if_pos c11] at H
               have c11b0 : decide (0 ≤ (ji10)) = true := dT_ c11; clear c11; (by_cases c12 : (ji10) < (l0_2.length : Int))
               · rw [if_pos c12] at H
                 have c12b0 : decide ((ji10) < (l0_2.length : Int)) = true := dT_ c12; clear c12; (by_cases c13 : (rd l0_2 x3_1) ≤ (rd l0_2 (ji10)))
                 · rw [if_pos c13] at H
                   have c13b0 : decide ((rd l0_2 x3_1) ≤ (rd l0_2 (ji10))) = true := dT_ c13; clear c13; obtain rfl := oJ_ H; simp only [oI_, pI_] at H; obtain ⟨rfl⟩ := H; have hcz14_0 := kc0_ BK450.out; have hcz14_1 := kc1_ BK450.out; have hcz14_2 := kc2_ BK450.out; have hfz14_0 := kF_ BK450.out 0; have hfz14_1 := kF_ BK450.out 1; have hfz14_2 := kF_ BK450.out 2; have p451 : 0 ≤ (x3_1 : Int) := oD_ (by assumption); have q451 : x3_1 < (l0_2.length : Int) := oD_ (by assumption); obtain ⟨ad451, e451, hx451_0⟩ := Kd.at_int HR0_2.out x3_1 p451 q451; (cases e451); replace hx451_0 := (HB.out.cell (lC_ w _ hx451_0)).trans hx451_0; replace p451 := eq_true p451; replace q451 := eq_true q451; have p452 : 0 ≤ (x3_1 : Int) := oD_ (by assumption); have q452 : x3_1 < (l0_2.length : Int) := oD_ (by assumption); obtain ⟨ad452, e452, hx452_0⟩ := Kd.at_int HR0_2.out x3_1 p452 q452; obtain rfl : ad451 = ad452 := (by injection e452); replace hx452_0 := (HB.out.cell (lC_ w _ hx452_0)).trans hx452_0; replace p452 := eq_true p452; replace q452 := eq_true q452; have p453 : 0 ≤ (x3_1 : Int) := oD_ (by assumption); have q453 : x3_1 < (l0_2.length : Int) := oD_ (by assumption); obtain ⟨ad453, e453, hx453_0⟩ := Kd.at_int HR0_2.out x3_1 p453 q453; obtain rfl : ad451 = ad453 := (by injection e453); replace hx453_0 := (HB.out.cell (lC_ w _ hx453_0)).trans hx453_0; replace p453 := eq_true p453; replace q453 := eq_true q453; have p454 : 0 ≤ ((ji10) : Int) := oD_ (by assumption); have q454 : (ji10) < (l0_2.length : Int) := oD_ (by assumption); obtain ⟨ad454, e454, hx454_0⟩ := Kd.at_int HR0_2.out (ji10) p454 q454; obtain rfl : ad451 = ad454 := (by injection e454); replace hx454_0 := (HB.out.cell (lC_ w _ hx454_0)).trans hx454_0; replace p454 := eq_true p454; replace q454 := eq_true q454; go_wp2
                   repeat (go_quiet (fail); try go_wp2)
                   go_ret; (exact ⟨by first | rfl | (simp [errW_none, errW_some] <;> rfl) | (simp only [← hji10]; first | rfl | (simp [errW_none, errW_some] <;> rfl)) | (simp [*, errW_none, errW_some] <;> rfl), by exact bZ1_ HB.out GE450.out⟩)
                 · rw [if_neg c13] at H
                   have c13b0 : decide ((rd l0_2 x3_1) ≤ (rd l0_2 (ji10))) = false := decide_eq_false c13; clear c13; have H' := aM_ H; clear H; have hcz15_0 := kc0_ BK450.out; have hcz15_1 := kc1_ BK450.out; have hcz15_2 := kc2_ BK450.out; have hfz15_0 := kF_ BK450.out 0; have hfz15_1 := kF_ BK450.out 1; have hfz15_2 := kF_ BK450.out 2; have p451 : 0 ≤ (x3_1 : Int) := oD_ (by assumption); have q451 : x3_1 < (l0_2.length : Int) := oD_ (by assumption); obtain ⟨ad451, e451, hx451_0⟩ := Kd.at_int HR0_2.out x3_1 p451 q451; (cases e451); replace hx451_0 := (HB.out.cell (lC_ w _ hx451_0)).trans hx451_0; replace p451 := eq_true p451; replace q451 := eq_true q451; have p452 : 0 ≤ (x3_1 : Int) := oD_ (by assumption); have q452 : x3_1 < (l0_2.length : Int) := oD_ (by assumption); obtain ⟨ad452, e452, hx452_0⟩ := Kd.at_int HR0_2.out x3_1 p452 q452; obtain rfl : ad451 = ad452 := (by injection e452); replace hx452_0 := (HB.out.cell (lC_ w _ hx452_0)).trans hx452_0; replace p452 := eq_true p452; replace q452 := eq_true q452; have p453 : 0 ≤ (x3_1 : Int) := oD_ (by assumption); have q453 : x3_1 < (l0_2.length : Int) := oD_ (by assumption); obtain ⟨ad453, e453, hx453_0⟩ := Kd.at_int HR0_2.out x3_1 p453 q453; obtain rfl : ad451 = ad453 := (by injection e453); replace hx453_0 := (HB.out.cell (lC_ w _ hx453_0)).trans hx453_0; replace p453 := eq_true p453; replace q453 := eq_true q453; have p454 : 0 ≤ ((ji10) : Int) := oD_ (by assumption); have q454 : (ji10) < (l0_2.length : Int) := oD_ (by assumption); obtain ⟨ad454, e454, hx454_0⟩ := Kd.at_int HR0_2.out (ji10) p454 q454; obtain rfl : ad451 = ad454 := (by injection e454); replace hx454_0 := (HB.out.cell (lC_ w _ hx454_0)).trans hx454_0; replace p454 := eq_true p454; replace q454 := eq_true q454; go_wp2
                   repeat (go_quiet (fail); try go_wp2)
                   (go_roundg k1)
                   case measure => have := HK1.out; omega
                   case rel => exact ⟨(wrap64 (x3_1 + 1)), (by first | rfl | (simp; done) | (simp [*]; done)), H', ⟨by have := HK1.out; omega⟩, ⟨kZ_ BK450.out⟩, ⟨bZ1_ HB.out GE450.out⟩⟩
               (· rw [if_neg c12] at H; exact absurd H (by simp))
             (· rw [if_neg c11] at H; exact absurd H (by simp))
           · rw [if_neg c9] at H
             have c9b0 : decide (0 < x3_1) = false := decide_eq_false c9; clear c9; have H' := aM_ H; clear H; have hcz16_0 := kc0_ BK450.out; have hcz16_1 := kc1_ BK450.out; have hcz16_2 := kc2_ BK450.out; have hfz16_0 := kF_ BK450.out 0; have hfz16_1 := kF_ BK450.out 1; have hfz16_2 := kF_ BK450.out 2; have p451 : 0 ≤ (x3_1 : Int) := oD_ (by assumption); have q451 : x3_1 < (l0_2.length : Int) := oD_ (by assumption); obtain ⟨ad451, e451, hx451_0⟩ := Kd.at_int HR0_2.out x3_1 p451 q451; (cases e451); replace hx451_0 := (HB.out.cell (lC_ w _ hx451_0)).trans hx451_0; replace p451 := eq_true p451; replace q451 := eq_true q451; have p452 : 0 ≤ (x3_1 : Int) := oD_ (by assumption); have q452 : x3_1 < (l0_2.length : Int) := oD_ (by assumption); obtain ⟨ad452, e452, hx452_0⟩ := Kd.at_int HR0_2.out x3_1 p452 q452; obtain rfl : ad451 = ad452 := (by injection e452); replace hx452_0 := (HB.out.cell (lC_ w _ hx452_0)).trans hx452_0; replace p452 := eq_true p452; replace q452 := eq_true q452; go_wp2
             repeat (go_quiet (fail); try go_wp2)
             (go_roundg k1)
             case measure => have := HK1.out; omega
             case rel => exact ⟨(wrap64 (x3_1 + 1)), (by first | rfl | (simp; done) | (simp [*]; done)), H', ⟨by have := HK1.out; omega⟩, ⟨kZ_ BK450.out⟩, ⟨bZ1_ HB.out GE450.out⟩⟩
     (· rw [if_neg c4] at H; exact absurd H (by simp))
   · rw [if_neg c3] at H
     have c3b0 : decide (x3_1 < (l0_2.length : Int)) = false := decide_eq_false c3; clear c3; (by_cases c17 : a0_0 ≥ 1)
     · rw [if_pos c17] at H
       have c17b0 : decide (1 ≤ a0_0) = true := dT_ c17; clear c17; (by_cases c18 : a0_0 ≤ 4611686018427387903)
       · rw [if_pos c18] at H
         have c18b0 : decide (a0_0 ≤ 4611686018427387903) = true := dT_ c18; clear c18; replace H := Option.bind_eq_some_iff.mp H; obtain ⟨t455, A190, H⟩ := H; replace H : (some t455) = some r := H; have A19 := aM_ A190; clear A190; obtain rfl := oJ_ H; simp only [oI_, pI_] at H; obtain ⟨rfl⟩ := H; have hcz20_0 := kc0_ BK450.out; have hcz20_1 := kc1_ BK450.out; have hcz20_2 := kc2_ BK450.out; have hfz20_0 := kF_ BK450.out 0; have hfz20_1 := kF_ BK450.out 1; have hfz20_2 := kF_ BK450.out 2; (go_wp2_with (first | (go_at_call 42; (with_reducible refine (q07_Check.calls k1 a0_1 t455 _ A19.out).mono ?_); rintro e w21 ⟨rfl, hb⟩; have n0_ := aM_ (kB_ (g := gb450) (o := .cells #[.int .i64 a0_0, .string a0_1, .slice A0_2 l0_2.length c0_2] 25 (0, 0)) (kZ_ BK450.out) hb); have n1_ := aM_ (bT_ (bZ1_ HB.out GE450.out) hb); clear BK450; clear HB; have BK450 := n0_; have HB := n1_; clear n0_ n1_; (try clear hb); (try clear hb2); (try clear hk); (try clear hi))))
         repeat (go_quiet (first | (go_at_call 42; (with_reducible refine (q07_Check.calls k1 a0_1 t455 _ A19.out).mono ?_); rintro e w21 ⟨rfl, hb⟩; have n0_ := aM_ (kB_ (g := gb450) (o := .cells #[.int .i64 a0_0, .string a0_1, .slice A0_2 l0_2.length c0_2] 25 (0, 0)) (kZ_ BK450.out) hb); have n1_ := aM_ (bT_ (bZ1_ HB.out GE450.out) hb); clear BK450; clear HB; have BK450 := n0_; have HB := n1_; clear n0_ n1_; (try clear hb); (try clear hb2); (try clear hk); (try clear hi))); try go_wp2_with (first | (go_at_call 42; (with_reducible refine (q07_Check.calls k1 a0_1 t455 _ A19.out).mono ?_); rintro e w21 ⟨rfl, hb⟩; have n0_ := aM_ (kB_ (g := gb450) (o := .cells #[.int .i64 a0_0, .string a0_1, .slice A0_2 l0_2.length c0_2] 25 (0, 0)) (kZ_ BK450.out) hb); have n1_ := aM_ (bT_ (bZ1_ HB.out GE450.out) hb); clear BK450; clear HB; have BK450 := n0_; have HB := n1_; clear n0_ n1_; (try clear hb); (try clear hb2); (try clear hk); (try clear hi))))
         go_ret; (exact ⟨by first | rfl | (simp [errW_none, errW_some] <;> rfl) | (simp [*, errW_none, errW_some] <;> rfl), by exact bZ1_ HB.out GE450.out⟩)
       · rw [if_neg c18] at H
         have c18b0 : decide (a0_0 ≤ 4611686018427387903) = false := decide_eq_false c18; clear c18; obtain rfl := oJ_ H; simp only [oI_, pI_] at H; obtain ⟨rfl⟩ := H; have hcz22_0 := kc0_ BK450.out; have hcz22_1 := kc1_ BK450.out; have hcz22_2 := kc2_ BK450.out; have hfz22_0 := kF_ BK450.out 0; have hfz22_1 := kF_ BK450.out 1; have hfz22_2 := kF_ BK450.out 2; go_wp2
         repeat (go_quiet (fail); try go_wp2)
         go_ret; (exact ⟨by first | rfl | (simp [errW_none, errW_some] <;> rfl) | (simp [*, errW_none, errW_some] <;> rfl), by exact bZ1_ HB.out GE450.out⟩)
     · rw [if_neg c17] at H
       have c17b0 : decide (1 ≤ a0_0) = false := decide_eq_false c17; clear c17; obtain rfl := oJ_ H; simp only [oI_, pI_] at H; obtain ⟨rfl⟩ := H; have hcz23_0 := kc0_ BK450.out; have hcz23_1 := kc1_ BK450.out; have hcz23_2 := kc2_ BK450.out; have hfz23_0 := kF_ BK450.out 0; have hfz23_1 := kF_ BK450.out 1; have hfz23_2 := kF_ BK450.out 2; go_wp2
       repeat (go_quiet (fail); try go_wp2)
       go_ret; (exact ⟨by first | rfl | (simp [errW_none, errW_some] <;> rfl) | (simp [*, errW_none, errW_some] <;> rfl), by exact bZ1_ HB.out GE450.out⟩)
def q03_step.l0 : Nat → Int → Int → Option (Int)
  | 0, _, _ => none
  | k + 1, x5, x6 => if x6 < 8 then (if (Int.tmod x5 2) = 1 then (q03_step.l0 k (Go.bits .xor .u32 ((Int.tdiv x5 2) % 4294967296) 3988292384) (wrap64 (x6 + 1))) else (q03_step.l0 k ((Int.tdiv x5 2) % 4294967296) (wrap64 (x6 + 1)))) else (some x5)
def q03_step.f (k : Nat) (a0 : Int) (a1 : Int) : Option (Int) := q03_step.l0 k (Go.bits .xor .u32 a0 ((a1) % 4294967296)) 0
theorem q03_step.mono_l : ∀ k, (∀ y0 y1, LeO (q03_step.l0 k y0 y1) (q03_step.l0 (k + 1) y0 y1))
  | 0 => fun _ _ r h => by simp [q03_step.l0] at h
  | k + 1 => by
    have ih0 := q03_step.mono_l k
    · intro y0 y1
      unfold q03_step.l0
      repeat' first
      | (with_reducible exact ih0 _ _)
      | (with_reducible exact LeO.refl _)
      | (with_reducible exact LeO.none _)
      | (with_reducible refine LeO.ite ?_ ?_)
      | (with_reducible refine LeO.bind ?_ (fun _ => ?_))
      | exact ih0 _ _
      | exact LeO.none _
      | refine LeO.ite ?_ ?_
      | refine LeO.bind ?_ (fun _ => ?_)
theorem q03_step.mono : ∀ a0 a1 k, LeO (q03_step.f k a0 a1) (q03_step.f (k + 1) a0 a1) := by
 intro a0 a1 k; have ih0 := q03_step.mono_l k; unfold q03_step.f
 repeat' first
     | (with_reducible exact ih0 _ _)
     | (with_reducible exact LeO.refl _)
     | (with_reducible exact LeO.none _)
     | (with_reducible refine LeO.ite ?_ ?_)
     | (with_reducible refine LeO.bind ?_ (fun _ => ?_))
     | exact ih0 _ _
     | exact LeO.none _
     | refine LeO.ite ?_ ?_
     | refine LeO.bind ?_ (fun _ => ?_)
theorem q03_step.calls (k : Nat) (a0 : Int) (a1 : Int) (r : Int) (w : World) (h : q03_step.f k a0 a1 = some r) :
    Calls Tryd.prog 71 #[.int .u32 a0, .int .u8 a1] w fun e w' => e = .returned (.int .u32 r) ∧ Drawn0 w w' := by
 have H : (q03_step.l0 k (Go.bits .xor .u32 a0 ((a1) % 4294967296)) 0) = some r := h; clear h; have H' := aM_ H; clear H; (go_enter Tryd.func71, Tryd.ntmps71); go_wp2; (go_loopg [5, 6] k (fun kq v5 v6 w' => ∃ (x5_1 : Int) (x6_1 : Int), v5 = .int .u32 x5_1 ∧ v6 = .int .i64 x6_1 ∧ Aside0 (q03_step.l0 kq x5_1 x6_1 = some r) ∧ Aside0 (kq ≤ k) ∧ Drawn0 w w'))
 case atStart => exact ⟨(Go.bits .xor .u32 a0 ((a1) % 4294967296)), (0), (by first | rfl | (simp; done) | (simp [*]; done)), (by first | rfl | (simp; done) | (simp [*]; done)), H', ⟨Nat.le_refl _⟩, by repeat (first | exact Drawn0.refl _ | apply Drawn0.step)⟩
 case round =>
  clear H'; (try clear p2); obtain ⟨x5_1, x6_1, rfl, rfl, HA, HK1, ⟨m1, rfl⟩⟩ := hrel
  cases gk with
  | zero => exact absurd HA.out (by simp [q03_step.l0])
  | succ k1 =>
   have H := HA.out; clear HA; simp only [q03_step.l0] at H; (by_cases c3 : x6_1 < 8)
   · rw [if_pos c3] at H
     have c3b0 : decide (x6_1 < 8) = true := dT_ c3; clear c3; (by_cases c4 : (Int.tmod x5_1 2) = 1)
     · rw [if_pos c4] at H
       have c4b0 : ((Int.tmod x5_1 2) == 1) = true := beq_iff_eq.mpr c4; have c4b1 : ((Int.tmod x5_1 2) != 1) = false := bne_eq_false_iff_eq.mpr c4; clear c4; have H' := aM_ H; clear H; go_wp2; (go_roundg k1)
       case measure => have := HK1.out; omega
       case rel => exact ⟨(Go.bits .xor .u32 ((Int.tdiv x5_1 2) % 4294967296) 3988292384), (wrap64 (x6_1 + 1)), (by first | rfl | (simp; done) | (simp [*]; done)), (by first | rfl | (simp; done) | (simp [*]; done)), H', ⟨by have := HK1.out; omega⟩, by repeat (first | exact Drawn0.refl _ | apply Drawn0.step)⟩
     · rw [if_neg c4] at H
       have c4b0 : ((Int.tmod x5_1 2) == 1) = false := beq_eq_false_iff_ne.mpr c4; have c4b1 : ((Int.tmod x5_1 2) != 1) = true := bne_iff_ne.mpr c4; have H' := aM_ H; clear H; go_wp2; (go_roundg k1)
       case measure => have := HK1.out; omega
       case rel => exact ⟨((Int.tdiv x5_1 2) % 4294967296), (wrap64 (x6_1 + 1)), (by first | rfl | (simp; done) | (simp [*]; done)), (by first | rfl | (simp; done) | (simp [*]; done)), H', ⟨by have := HK1.out; omega⟩, by repeat (first | exact Drawn0.refl _ | apply Drawn0.step)⟩
   (· rw [if_neg c3] at H; have c3b0 : decide (x6_1 < 8) = false := decide_eq_false c3; clear c3; obtain rfl := oJ_ H; simp only [oI_, pI_] at H; obtain ⟨rfl⟩ := H; go_wp2; go_ret; exact ⟨by first | rfl | (simp; done) | (simp [*]; done), by repeat (first | exact Drawn0.refl _ | apply Drawn0.step)⟩)
def q03_More.l0 : Nat → List Int → Int → Int → Option (Int)
  | 0, _, _, _ => none
  | k + 1, x1, x5, x6 => if x6 < (x1.length : Int) then (if 0 ≤ x6 then ((q03_step.f k x5 (rd x1 x6)).bind fun t457 => (q03_More.l0 k x1 t457 (wrap64 (x6 + 1)))) else (none)) else (some ((4294967295 - x5) % 4294967296))
def q03_More.f (k : Nat) (a0 : Int) (l1 : List Int) : Option (Int) := q03_More.l0 k l1 ((4294967295 - a0) % 4294967296) 0
theorem q03_More.mono_l : ∀ k, (∀ y0 y1 y2, LeO (q03_More.l0 k y0 y1 y2) (q03_More.l0 (k + 1) y0 y1 y2))
  | 0 => fun _ _ _ r h => by simp [q03_More.l0] at h
  | k + 1 => by
    have ih0 := q03_More.mono_l k
    · intro y0 y1 y2
      unfold q03_More.l0
      repeat' first
      | (with_reducible exact ih0 _ _ _)
      | (with_reducible exact q03_step.mono _ _ _)
      | (with_reducible exact LeO.refl _)
      | (with_reducible exact LeO.none _)
      | (with_reducible refine LeO.ite ?_ ?_)
      | (with_reducible refine LeO.bind ?_ (fun _ => ?_))
      | exact ih0 _ _ _
      | exact LeO.none _
      | refine LeO.ite ?_ ?_
      | refine LeO.bind ?_ (fun _ => ?_)
theorem q03_More.mono : ∀ a0 a1 k, LeO (q03_More.f k a0 a1) (q03_More.f (k + 1) a0 a1) := by
 intro a0 a1 k; have ih0 := q03_More.mono_l k; unfold q03_More.f
 repeat' first
     | (with_reducible exact ih0 _ _ _)
     | (with_reducible exact q03_step.mono _ _ _)
     | (with_reducible exact LeO.refl _)
     | (with_reducible exact LeO.none _)
     | (with_reducible refine LeO.ite ?_ ?_)
     | (with_reducible refine LeO.bind ?_ (fun _ => ?_))
     | exact ih0 _ _ _
     | exact LeO.none _
     | refine LeO.ite ?_ ?_
     | refine LeO.bind ?_ (fun _ => ?_)
theorem q03_More.calls (k : Nat) (a0 : Int) (A1 : Option Addr) (c1 : Nat) (l1 : List Int) (r : Int) (w : World) (hr1 : Kd.C (Kd.int .u8) w A1 l1.length l1) (hc1 : l1.length ≤ c1) (h : q03_More.f k a0 l1 = some r) :
    Calls Tryd.prog 60 #[.int .u32 a0, .slice A1 l1.length c1] w fun e w' => e = .returned (.int .u32 r) ∧ Drawn0 w w' := by
 have HR1 := aM_ hr1; have HC1 := aM_ hc1; clear hr1 hc1; have H : (q03_More.l0 k l1 ((4294967295 - a0) % 4294967296) 0) = some r := h; clear h; have H' := aM_ H; clear H; (go_enter Tryd.func60, Tryd.ntmps60); go_wp2; (go_loopg [5, 6] k (fun kq v5 v6 w' => ∃ (x5_1 : Int) (x6_1 : Int), v5 = .int .u32 x5_1 ∧ v6 = .int .i64 x6_1 ∧ Aside0 (q03_More.l0 kq l1 x5_1 x6_1 = some r) ∧ Aside0 (kq ≤ k) ∧ Drawn0 w w'))
 case atStart => exact ⟨((4294967295 - a0) % 4294967296), (0), (by first | rfl | (simp; done) | (simp [*]; done)), (by first | rfl | (simp; done) | (simp [*]; done)), H', ⟨Nat.le_refl _⟩, by repeat (first | exact Drawn0.refl _ | apply Drawn0.step)⟩
 case round =>
  clear H'; (try clear c1); (try clear p2); obtain ⟨x5_1, x6_1, rfl, rfl, HA, HK1, ⟨m1, rfl⟩⟩ := hrel
  cases gk with
  | zero => exact absurd HA.out (by simp [q03_More.l0])
  | succ k1 =>
   have H := HA.out; clear HA; simp only [q03_More.l0] at H; (by_cases c3 : x6_1 < (l1.length : Int))
   · rw [if_pos c3] at H
     have c3b0 : decide (x6_1 < (l1.length : Int)) = true := dT_ c3; clear c3; (by_cases c4 : 0 ≤ x6_1)
     · rw [if_pos c4] at H
       have c4b0 : decide (0 ≤ x6_1) = true := dT_ c4; clear c4; replace H := Option.bind_eq_some_iff.mp H; obtain ⟨t457, A50, H⟩ := H; replace H : (q03_More.l0 k1 l1 t457 (wrap64 (x6_1 + 1))) = some r := H; have A5 := aM_ A50; clear A50; have H' := aM_ H; clear H; have p456 : 0 ≤ (x6_1 : Int) := oD_ (by assumption); have q456 : x6_1 < (l1.length : Int) := oD_ (by assumption); obtain ⟨ad456, e456, hx456_0⟩ := Kd.at_int HR1.out x6_1 p456 q456; (cases e456); replace p456 := eq_true p456; replace q456 := eq_true q456; (go_wp2_with (first | ((with_reducible refine gate_callee (f := 71) rfl ?_); refine goesL_ (some 20) rfl rfl Tryd.func71 (by kernel_rfl) rfl #[.int .u32 x5_1, .int .u8 (rd l1 x6_1)] rfl (by (try simp only [mA_, mC_, mN_]); first | done | rfl | (simp only [lD_, lT_]; rfl)) ?_; (with_reducible refine (q03_step.calls k1 x5_1 (rd l1 x6_1) t457 _ A5.out).mono ?_); rintro e w' ⟨rfl, ⟨nd, rfl⟩⟩; refine ⟨_, rfl, ?_⟩))); (go_roundg k1)
       case measure => have := HK1.out; omega
       case rel => exact ⟨(t457), (wrap64 (x6_1 + 1)), (by first | rfl | (simp; done) | (simp [*]; done)), (by first | rfl | (simp; done) | (simp [*]; done)), H', ⟨by have := HK1.out; omega⟩, by repeat (first | exact Drawn0.refl _ | apply Drawn0.step)⟩
     (· rw [if_neg c4] at H; exact absurd H (by simp))
   (· rw [if_neg c3] at H; have c3b0 : decide (x6_1 < (l1.length : Int)) = false := decide_eq_false c3; clear c3; obtain rfl := oJ_ H; simp only [oI_, pI_] at H; obtain ⟨rfl⟩ := H; go_wp2; go_ret; exact ⟨by first | rfl | (simp; done) | (simp [*]; done), by repeat (first | exact Drawn0.refl _ | apply Drawn0.step)⟩)
def q03_Sum.f (k : Nat) (l0 : List Int) : Option (Int) := (q03_More.f k 0 l0).bind fun t458 => (some t458)
theorem q03_Sum.mono : ∀ a0 k, LeO (q03_Sum.f k a0) (q03_Sum.f (k + 1) a0) := by
 intro a0 k; unfold q03_Sum.f
 repeat' first
     | (with_reducible exact q03_More.mono _ _ _)
     | (with_reducible exact LeO.refl _)
     | (with_reducible exact LeO.none _)
     | (with_reducible refine LeO.ite ?_ ?_)
     | (with_reducible refine LeO.bind ?_ (fun _ => ?_))
     | exact LeO.none _
     | refine LeO.ite ?_ ?_
     | refine LeO.bind ?_ (fun _ => ?_)
theorem q03_Sum.calls (k : Nat) (A0 : Option Addr) (c0 : Nat) (l0 : List Int) (r : Int) (w : World) (hr0 : Kd.C (Kd.int .u8) w A0 l0.length l0) (hc0 : l0.length ≤ c0) (h : q03_Sum.f k l0 = some r) :
    Calls Tryd.prog 44 #[.slice A0 l0.length c0] w fun e w' => e = .returned (.int .u32 r) ∧ Drawn0 w w' := by
 have HR0 := aM_ hr0; have HC0 := aM_ hc0; clear hr0 hc0; have H : ((q03_More.f k 0 l0).bind fun t458 => (some t458)) = some r := h; clear h; replace H := Option.bind_eq_some_iff.mp H; obtain ⟨t458, A20, H⟩ := H; replace H : (some t458) = some r := H; have A2 := aM_ A20; clear A20; obtain rfl := oJ_ H; simp only [oI_, pI_] at H; obtain ⟨rfl⟩ := H; (go_enter Tryd.func44, Tryd.ntmps44); (go_wp2_with (first | ((with_reducible refine gate_callee (f := 60) rfl ?_); refine goesL_ (some 4) rfl rfl Tryd.func60 (by kernel_rfl) rfl #[.int .u32 0, .slice A0 l0.length c0] rfl (by (try simp only [mA_, mC_, mN_]); first | done | rfl | (simp only [lD_, lT_]; rfl)) ?_; (with_reducible refine (q03_More.calls k 0 _ _ l0 t458 _ ?side1 ?side2 A2.out).mono ?_); (case side1 => repeat (first | exact HR0.out | (with_reducible refine Kd.C_alloc ?_ _) | (with_reducible refine Kd.C_drewN ?_ _) | (with_reducible refine Kd.C_drew ?_))); (case side2 => exact HC0.out); rintro e w' ⟨rfl, ⟨nd, rfl⟩⟩; refine ⟨_, rfl, ?_⟩))); go_ret; exact ⟨by first | rfl | (simp; done) | (simp [*]; done), by repeat (first | exact Drawn0.refl _ | apply Drawn0.step)⟩
end Go.Proofs.YtfffnogmkbbfkaaDoor.Fn
