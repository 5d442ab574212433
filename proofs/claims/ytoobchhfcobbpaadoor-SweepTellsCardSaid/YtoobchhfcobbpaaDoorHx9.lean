import Derived.Test.YtoobchhfcobbpaaDoorHx0
namespace Go.Proofs.YtoobchhfcobbpaaDoor.Fn
open Go.RowKit Go.Proofs.YtoobchhfcobbpaaDoorW.PrintWords Go.Proofs.YtoobchhfcobbpaaDoorW.PrintLast Go.Proofs.YtoobchhfcobbpaaDoorW.PrintMore
attribute [local go_sem] max2_int min2_int max_two min_two max_three min_three max_four min_four
set_option linter.unusedVariables false
set_option linter.unusedSimpArgs false
def q07_digit.l0 : Nat → Int → Int → Option (Int)
 | 0, _, _ => none
 | k + 1, x0, x3 => if x3 < 16 then (if 0 ≤ x3 then (if (bt (⟨#[48, 49, 50, 51, 52, 53, 54, 55, 56, 57, 97, 98, 99, 100, 101, 102]⟩ : ByteArray) x3) = x0 then (some x3) else (q07_digit.l0 k x0 (wrap64 (x3 + 1)))) else (none)) else (some (-1))
def q07_digit.f (k : Nat) (a0 : Int) : Option (Int) := q07_digit.l0 k a0 0
theorem q07_digit.mono_l : ∀ k, (∀ y0 y1, LeO (q07_digit.l0 k y0 y1) (q07_digit.l0 (k + 1) y0 y1))
 | 0 => fun _ _ r h => by simp [q07_digit.l0] at h
 | k + 1 => by
  have ih0 := q07_digit.mono_l k
  · intro y0 y1
    unfold q07_digit.l0
    repeat' first
    | (with_reducible exact ih0 _ _)
    | (with_reducible exact LeO.refl _)
    | (with_reducible exact LeO.none _)
    | (with_reducible refine LeO.ite ?_ ?_)
    | (with_reducible refine LeO.bind ?_ (fun _ => ?_))
    | exact ih0 _ _
    | exact LeO.none _
    | refine LeO.ite ?_ ?_
    | refine LeO.bind ?_ (fun _ => ?_)
theorem q07_digit.mono : ∀ a0 k, LeO (q07_digit.f k a0) (q07_digit.f (k + 1) a0) := by
 intro a0 k; have ih0 := q07_digit.mono_l k; unfold q07_digit.f
 repeat' first
  | (with_reducible exact ih0 _ _)
  | (with_reducible exact LeO.refl _)
  | (with_reducible exact LeO.none _)
  | (with_reducible refine LeO.ite ?_ ?_)
  | (with_reducible refine LeO.bind ?_ (fun _ => ?_))
  | exact ih0 _ _
  | exact LeO.none _
  | refine LeO.ite ?_ ?_
  | refine LeO.bind ?_ (fun _ => ?_)
set_option maxHeartbeats 8000000 in
set_option maxRecDepth 100000 in
theorem q07_digit.calls (k : Nat) (a0 : Int) (r : Int) (w : World) (h : q07_digit.f k a0 = some r) :
 Calls Tryd.prog 50 #[.int .u8 a0] w fun e w' => e = .returned (.int .i64 r) ∧ Drawn0 w w' := by
 have H : (q07_digit.l0 k a0 0) = some r := h; clear h; have H' := aM_ H; clear H; (go_enter Tryd.func50, Tryd.ntmps50); go_wp2; (go_loopg [3] k (fun kq v3 w' => ∃ (x3_1 : Int), v3 = .int .i64 x3_1 ∧ Aside0 (q07_digit.l0 kq a0 x3_1 = some r) ∧ Aside0 (kq ≤ k) ∧ Drawn0 w w'))
 case atStart => exact ⟨(0), (by first | rfl | (simp; done) | (simp [*]; done)), H', ⟨Nat.le_refl _⟩, by repeat (first | exact Drawn0.refl _ | apply Drawn0.step)⟩
 case round =>
  clear H'; obtain ⟨x3_1, rfl, HA, HK1, ⟨m1, rfl⟩⟩ := hrel
  cases gk with
  | zero => exact absurd HA.out (by simp [q07_digit.l0])
  | succ k1 =>
   have H := HA.out; clear HA; simp only [q07_digit.l0] at H; (by_cases c2 : x3_1 < 16)
   · rw [if_pos c2] at H
     have c2b0 : decide (x3_1 < 16) = true := decide_eq_true c2; clear c2; (by_cases c3 : 0 ≤ x3_1)
     · rw [if_pos c3] at H
       have c3b0 : decide (0 ≤ x3_1) = true := decide_eq_true c3; clear c3; (by_cases c5 : (bt (⟨#[48, 49, 50, 51, 52, 53, 54, 55, 56, 57, 97, 98, 99, 100, 101, 102]⟩ : ByteArray) x3_1) = a0); (· rw [if_pos c5] at H; have c5b0 : ((bt (⟨#[48, 49, 50, 51, 52, 53, 54, 55, 56, 57, 97, 98, 99, 100, 101, 102]⟩ : ByteArray) x3_1) == a0) = true := beq_iff_eq.mpr c5; have c5b1 : ((bt (⟨#[48, 49, 50, 51, 52, 53, 54, 55, 56, 57, 97, 98, 99, 100, 101, 102]⟩ : ByteArray) x3_1) != a0) = false := bne_eq_false_iff_eq.mpr c5; clear c5; obtain rfl := Option.some.inj H; simp only [Option.some.injEq, Prod.mk.injEq] at H; obtain ⟨rfl⟩ := H; have p4 : 0 ≤ (x3_1 : Int) := of_decide_eq_true (by assumption); have q4 : x3_1 < (16 : Int) := of_decide_eq_true (by assumption); have hx4 := bt_at (⟨#[48, 49, 50, 51, 52, 53, 54, 55, 56, 57, 97, 98, 99, 100, 101, 102]⟩ : ByteArray) x3_1; replace p4 := eq_true p4; replace q4 := eq_true q4; go_wp2; go_ret; exact ⟨by first | rfl | (simp; done) | (simp [*]; done), by repeat (first | exact Drawn0.refl _ | apply Drawn0.step)⟩)
       · rw [if_neg c5] at H
         have c5b0 : ((bt (⟨#[48, 49, 50, 51, 52, 53, 54, 55, 56, 57, 97, 98, 99, 100, 101, 102]⟩ : ByteArray) x3_1) == a0) = false := beq_eq_false_iff_ne.mpr c5; have c5b1 : ((bt (⟨#[48, 49, 50, 51, 52, 53, 54, 55, 56, 57, 97, 98, 99, 100, 101, 102]⟩ : ByteArray) x3_1) != a0) = true := bne_iff_ne.mpr c5; have H' := aM_ H; clear H; have p4 : 0 ≤ (x3_1 : Int) := of_decide_eq_true (by assumption); have q4 : x3_1 < (16 : Int) := of_decide_eq_true (by assumption); have hx4 := bt_at (⟨#[48, 49, 50, 51, 52, 53, 54, 55, 56, 57, 97, 98, 99, 100, 101, 102]⟩ : ByteArray) x3_1; replace p4 := eq_true p4; replace q4 := eq_true q4; go_wp2; (go_roundg k1)
         case measure => have := HK1.out; omega
         case rel => exact ⟨(wrap64 (x3_1 + 1)), (by first | rfl | (simp; done) | (simp [*]; done)), H', ⟨by have := HK1.out; omega⟩, by repeat (first | exact Drawn0.refl _ | apply Drawn0.step)⟩
     (· rw [if_neg c3] at H; exact absurd H (by simp))
   (· rw [if_neg c2] at H; have c2b0 : decide (x3_1 < 16) = false := decide_eq_false c2; clear c2; obtain rfl := Option.some.inj H; simp only [Option.some.injEq, Prod.mk.injEq] at H; obtain ⟨rfl⟩ := H; go_wp2; go_ret; exact ⟨by first | rfl | (simp; done) | (simp [*]; done), by repeat (first | exact Drawn0.refl _ | apply Drawn0.step)⟩)
def q07_Bytes.l0 : Nat → ByteArray → List Int → Int → Option (List Int × Int)
 | 0, _, _, _ => none
 | k + 1, x0, x4, x5 => if x5 < 64 then (if 0 ≤ x5 then (if x5 < (x0.size : Int) then ((q07_digit.f k (bt x0 x5)).bind fun t270 => (if 0 ≤ (wrap64 (x5 + 1)) then (if (wrap64 (x5 + 1)) < (x0.size : Int) then ((q07_digit.f k (bt x0 (wrap64 (x5 + 1)))).bind fun t271 => (if t270 < 0 then (some (([] : List Int), 70)) else (if t271 < 0 then (some (([] : List Int), 70)) else (if x4.length < 140737488355328 then (q07_Bytes.l0 k x0 (x4 ++ [(wrap64 ((wrap64 (16 * t270)) + t271)) % 256]) (wrap64 (x5 + 2))) else (none))))) else (none)) else (none))) else (none)) else (none)) else (some (x4, 0))
def q07_Bytes.f (k : Nat) (a0 : ByteArray) : Option (List Int × Int) := if (a0.size : Int) = 64 then (q07_Bytes.l0 k a0 ([] : List Int) 0) else (some (([] : List Int), 70))
theorem q07_Bytes.mono_l : ∀ k, (∀ y0 y1 y2, LeO (q07_Bytes.l0 k y0 y1 y2) (q07_Bytes.l0 (k + 1) y0 y1 y2))
 | 0 => fun _ _ _ r h => by simp [q07_Bytes.l0] at h
 | k + 1 => by
  have ih0 := q07_Bytes.mono_l k
  · intro y0 y1 y2
    unfold q07_Bytes.l0
    repeat' first
    | (with_reducible exact ih0 _ _ _)
    | (with_reducible exact q07_digit.mono _ _)
    | (with_reducible exact LeO.refl _)
    | (with_reducible exact LeO.none _)
    | (with_reducible refine LeO.ite ?_ ?_)
    | (with_reducible refine LeO.bind ?_ (fun _ => ?_))
    | exact ih0 _ _ _
    | exact LeO.none _
    | refine LeO.ite ?_ ?_
    | refine LeO.bind ?_ (fun _ => ?_)
theorem q07_Bytes.mono : ∀ a0 k, LeO (q07_Bytes.f k a0) (q07_Bytes.f (k + 1) a0) := by
 intro a0 k; have ih0 := q07_Bytes.mono_l k; unfold q07_Bytes.f
 repeat' first
  | (with_reducible exact ih0 _ _ _)
  | (with_reducible exact q07_digit.mono _ _)
  | (with_reducible exact LeO.refl _)
  | (with_reducible exact LeO.none _)
  | (with_reducible refine LeO.ite ?_ ?_)
  | (with_reducible refine LeO.bind ?_ (fun _ => ?_))
  | exact ih0 _ _ _
  | exact LeO.none _
  | refine LeO.ite ?_ ?_
  | refine LeO.bind ?_ (fun _ => ?_)
set_option maxHeartbeats 8000000 in
set_option maxRecDepth 100000 in
theorem q07_Bytes.calls (k : Nat) (a0 : ByteArray) (r1 : List Int) (r2 : Int) (w : World) (h : q07_Bytes.f k a0 = some (r1, r2)) :
 Calls Tryd.prog 37 #[.string a0] w fun e w' => ∃ v0_ : Value, e = .returned (.tuple #[v0_, .int .i64 r2]) ∧ Kd.R (Kd.int .u8) 5 w' w.heap.size (fun _ => True) v0_ r1 ∧ Below w.heap.size w w' := by
 have HB := aM_ (Below.refl w.heap.size w); have H : (if (a0.size : Int) = 64 then (q07_Bytes.l0 k a0 ([] : List Int) 0) else (some (([] : List Int), 70))) = some (r1, r2) := h; clear h; (by_cases c2 : (a0.size : Int) = 64)
 · rw [if_pos c2] at H
   have c2b0 : ((a0.size : Int) == 64) = true := beq_iff_eq.mpr c2; have c2b1 : ((a0.size : Int) != 64) = false := bne_eq_false_iff_eq.mpr c2; clear c2; have H' := aM_ H; clear H; (go_enter Tryd.func37, Tryd.ntmps37); go_wp2
   repeat (go_quiet (fail); try go_wp2)
   (go_loopg [4, 5] k (fun kq v4 v5 w' => ∃ (x4_1 : List Int) (x5_1 : Int), v5 = .int .i64 x5_1 ∧ Aside0 (q07_Bytes.l0 kq a0 x4_1 x5_1 = some (r1, r2)) ∧ Aside0 (kq ≤ k) ∧ Aside0 (Kd.R (Kd.int .u8) 5 w' w.heap.size (fun _ => True) v4 x4_1) ∧ Aside0 (Below w.heap.size w w')))
   case atStart => exact ⟨(([] : List Int)), (0), (by first | rfl | (simp; done) | (simp [*]; done)), H', ⟨Nat.le_refl _⟩, ⟨by first | exact Kd.R_nil _ _ _ _ _ | exact Kd.N_nil _ _ _ _ _ | exact Kd.V_nil _ _ _ _ _ | exact Kd.Q_nil _ _ _ _ _ | exact Kd.S_nil _ _ _ _ _⟩, ⟨by repeat (first | (with_reducible first | exact HB.out | apply bA_ | apply bN_ | apply bD_) | exact HB.out)⟩⟩
   case round =>
    clear H'; (try clear c2); (try clear c2b0); (try clear c2b1); (try clear p2); obtain ⟨x4_1, x5_1, rfl, HA, HK1, HO_4, HB⟩ := hrel
    cases gk with
    | zero => exact absurd HA.out (by simp [q07_Bytes.l0])
    | succ k1 =>
     have H := HA.out; clear HA; simp only [q07_Bytes.l0] at H; (by_cases c3 : x5_1 < 64)
     · rw [if_pos c3] at H
       have c3b0 : decide (x5_1 < 64) = true := decide_eq_true c3; clear c3; (by_cases c4 : 0 ≤ x5_1)
       · rw [if_pos c4] at H
         have c4b0 : decide (0 ≤ x5_1) = true := decide_eq_true c4; clear c4; (by_cases c5 : x5_1 < (a0.size : Int))
         · rw [if_pos c5] at H
           have c5b0 : decide (x5_1 < (a0.size : Int)) = true := decide_eq_true c5; clear c5; replace H := Option.bind_eq_some_iff.mp H; obtain ⟨t270, A70, H⟩ := H; replace H : (if 0 ≤ (wrap64 (x5_1 + 1)) then (if (wrap64 (x5_1 + 1)) < (a0.size : Int) then ((q07_digit.f k1 (bt a0 (wrap64 (x5_1 + 1)))).bind fun t271 => (if t270 < 0 then (some (([] : List Int), 70)) else (if t271 < 0 then (some (([] : List Int), 70)) else (if x4_1.length < 140737488355328 then (q07_Bytes.l0 k1 a0 (x4_1 ++ [(wrap64 ((wrap64 (16 * t270)) + t271)) % 256]) (wrap64 (x5_1 + 2))) else (none))))) else (none)) else (none)) = some (r1, r2) := H; have A7 := aM_ A70; clear A70; obtain ⟨ji8, hji8⟩ : ∃ j_ : Int, (wrap64 (x5_1 + 1)) = j_ := ⟨_, rfl⟩; (replace H : (if 0 ≤ (ji8) then (if (ji8) < (a0.size : Int) then ((q07_digit.f k1 (bt a0 (ji8))).bind fun t271 => (if t270 < 0 then (some (([] : List Int), 70)) else (if t271 < 0 then (some (([] : List Int), 70)) else (if x4_1.length < 140737488355328 then (q07_Bytes.l0 k1 a0 (x4_1 ++ [(wrap64 ((wrap64 (16 * t270)) + t271)) % 256]) (wrap64 (x5_1 + 2))) else (none))))) else (none)) else (none)) = some (r1, r2) := by first | (rw [hji8] at H; exact H) | (simp only [hji8] at H ⊢; exact H)); (try rw [hji8] at A7); have hji8w : (IntKind.i64.wrap (x5_1 + 1)) = ji8 := (i64_w _).trans hji8; (by_cases c9 : 0 ≤ (ji8))
           · rw [if_pos c9] at H
             have c9b0 : decide (0 ≤ (ji8)) = true := decide_eq_true c9; clear c9; (by_cases c10 : (ji8) < (a0.size : Int))
             · rw [if_pos c10] at H
               have c10b0 : decide ((ji8) < (a0.size : Int)) = true := decide_eq_true c10; clear c10; replace H := Option.bind_eq_some_iff.mp H; obtain ⟨t271, A120, H⟩ := H; replace H : (if t270 < 0 then (some (([] : List Int), 70)) else (if t271 < 0 then (some (([] : List Int), 70)) else (if x4_1.length < 140737488355328 then (q07_Bytes.l0 k1 a0 (x4_1 ++ [(wrap64 ((wrap64 (16 * t270)) + t271)) % 256]) (wrap64 (x5_1 + 2))) else (none)))) = some (r1, r2) := H; have A12 := aM_ A120; clear A120; (by_cases c13 : t270 < 0)
               · rw [if_pos c13] at H
                 have c13b0 : decide (t270 < 0) = true := decide_eq_true c13; clear c13; simp only [Option.some.injEq, Prod.mk.injEq] at H; obtain ⟨rfl, rfl⟩ := H; have p6 : 0 ≤ (x5_1 : Int) := of_decide_eq_true (by assumption); have q6 : x5_1 < (a0.size : Int) := of_decide_eq_true (by assumption); have hx6 := bt_at a0 x5_1; replace p6 := eq_true p6; replace q6 := eq_true q6; (go_wp2_with (first | (go_at_call 50; (with_reducible refine (q07_digit.calls k1 (bt a0 x5_1) t270 _ A7.out).mono ?_); rintro e w' ⟨rfl, ⟨nd, rfl⟩⟩; (try first | exact ⟨rfl, _, World.drewN_drewN _ _ _⟩ | exact ⟨rfl, _, Eq.trans (World.drewN_drewN _ _ _) (congrArg (World.drewN _) (Nat.add_assoc _ _ _))⟩); have p11 : 0 ≤ ((ji8) : Int) := of_decide_eq_true (by assumption); have q11 : (ji8) < (a0.size : Int) := of_decide_eq_true (by assumption); have hx11 := bt_at a0 (ji8); replace p11 := eq_true p11; replace q11 := eq_true q11) | (go_at_call 50; (with_reducible refine (q07_digit.calls k1 (bt a0 (ji8)) t271 _ A12.out).mono ?_); rintro e w' ⟨rfl, ⟨nd, rfl⟩⟩; (try first | exact ⟨rfl, _, World.drewN_drewN _ _ _⟩ | exact ⟨rfl, _, Eq.trans (World.drewN_drewN _ _ _) (congrArg (World.drewN _) (Nat.add_assoc _ _ _))⟩))))
                 repeat (go_quiet (first | (go_at_call 50; (with_reducible refine (q07_digit.calls k1 (bt a0 x5_1) t270 _ A7.out).mono ?_); rintro e w' ⟨rfl, ⟨nd, rfl⟩⟩; (try first | exact ⟨rfl, _, World.drewN_drewN _ _ _⟩ | exact ⟨rfl, _, Eq.trans (World.drewN_drewN _ _ _) (congrArg (World.drewN _) (Nat.add_assoc _ _ _))⟩); have p11 : 0 ≤ ((ji8) : Int) := of_decide_eq_true (by assumption); have q11 : (ji8) < (a0.size : Int) := of_decide_eq_true (by assumption); have hx11 := bt_at a0 (ji8); replace p11 := eq_true p11; replace q11 := eq_true q11) | (go_at_call 50; (with_reducible refine (q07_digit.calls k1 (bt a0 (ji8)) t271 _ A12.out).mono ?_); rintro e w' ⟨rfl, ⟨nd, rfl⟩⟩; (try first | exact ⟨rfl, _, World.drewN_drewN _ _ _⟩ | exact ⟨rfl, _, Eq.trans (World.drewN_drewN _ _ _) (congrArg (World.drewN _) (Nat.add_assoc _ _ _))⟩))); try go_wp2_with (first | (go_at_call 50; (with_reducible refine (q07_digit.calls k1 (bt a0 x5_1) t270 _ A7.out).mono ?_); rintro e w' ⟨rfl, ⟨nd, rfl⟩⟩; (try first | exact ⟨rfl, _, World.drewN_drewN _ _ _⟩ | exact ⟨rfl, _, Eq.trans (World.drewN_drewN _ _ _) (congrArg (World.drewN _) (Nat.add_assoc _ _ _))⟩); have p11 : 0 ≤ ((ji8) : Int) := of_decide_eq_true (by assumption); have q11 : (ji8) < (a0.size : Int) := of_decide_eq_true (by assumption); have hx11 := bt_at a0 (ji8); replace p11 := eq_true p11; replace q11 := eq_true q11) | (go_at_call 50; (with_reducible refine (q07_digit.calls k1 (bt a0 (ji8)) t271 _ A12.out).mono ?_); rintro e w' ⟨rfl, ⟨nd, rfl⟩⟩; (try first | exact ⟨rfl, _, World.drewN_drewN _ _ _⟩ | exact ⟨rfl, _, Eq.trans (World.drewN_drewN _ _ _) (congrArg (World.drewN _) (Nat.add_assoc _ _ _))⟩))))
                 (go_ret2); (exact ⟨_, by first | rfl | (simp [errW_none, errW_some] <;> rfl) | (simp only [← hji8]; first | rfl | (simp [errW_none, errW_some] <;> rfl)) | (simp [*, errW_none, errW_some] <;> rfl), by first | exact Kd.R_nil _ _ _ _ _ | exact Kd.N_nil _ _ _ _ _ | exact Kd.V_nil _ _ _ _ _ | exact Kd.Q_nil _ _ _ _ _ | exact Kd.S_nil _ _ _ _ _, by repeat (first | (with_reducible first | exact HB.out | apply bA_ | apply bN_ | apply bD_) | exact HB.out)⟩)
               · rw [if_neg c13] at H
                 have c13b0 : decide (t270 < 0) = false := decide_eq_false c13; clear c13; (by_cases c14 : t271 < 0)
                 · rw [if_pos c14] at H
                   have c14b0 : decide (t271 < 0) = true := decide_eq_true c14; clear c14; simp only [Option.some.injEq, Prod.mk.injEq] at H; obtain ⟨rfl, rfl⟩ := H; have p6 : 0 ≤ (x5_1 : Int) := of_decide_eq_true (by assumption); have q6 : x5_1 < (a0.size : Int) := of_decide_eq_true (by assumption); have hx6 := bt_at a0 x5_1; replace p6 := eq_true p6; replace q6 := eq_true q6; (go_wp2_with (first | (go_at_call 50; (with_reducible refine (q07_digit.calls k1 (bt a0 x5_1) t270 _ A7.out).mono ?_); rintro e w' ⟨rfl, ⟨nd, rfl⟩⟩; (try first | exact ⟨rfl, _, World.drewN_drewN _ _ _⟩ | exact ⟨rfl, _, Eq.trans (World.drewN_drewN _ _ _) (congrArg (World.drewN _) (Nat.add_assoc _ _ _))⟩); have p11 : 0 ≤ ((ji8) : Int) := of_decide_eq_true (by assumption); have q11 : (ji8) < (a0.size : Int) := of_decide_eq_true (by assumption); have hx11 := bt_at a0 (ji8); replace p11 := eq_true p11; replace q11 := eq_true q11) | (go_at_call 50; (with_reducible refine (q07_digit.calls k1 (bt a0 (ji8)) t271 _ A12.out).mono ?_); rintro e w' ⟨rfl, ⟨nd, rfl⟩⟩; (try first | exact ⟨rfl, _, World.drewN_drewN _ _ _⟩ | exact ⟨rfl, _, Eq.trans (World.drewN_drewN _ _ _) (congrArg (World.drewN _) (Nat.add_assoc _ _ _))⟩))))
                   repeat (go_quiet (first | (go_at_call 50; (with_reducible refine (q07_digit.calls k1 (bt a0 x5_1) t270 _ A7.out).mono ?_); rintro e w' ⟨rfl, ⟨nd, rfl⟩⟩; (try first | exact ⟨rfl, _, World.drewN_drewN _ _ _⟩ | exact ⟨rfl, _, Eq.trans (World.drewN_drewN _ _ _) (congrArg (World.drewN _) (Nat.add_assoc _ _ _))⟩); have p11 : 0 ≤ ((ji8) : Int) := of_decide_eq_true (by assumption); have q11 : (ji8) < (a0.size : Int) := of_decide_eq_true (by assumption); have hx11 := bt_at a0 (ji8); replace p11 := eq_true p11; replace q11 := eq_true q11) | (go_at_call 50; (with_reducible refine (q07_digit.calls k1 (bt a0 (ji8)) t271 _ A12.out).mono ?_); rintro e w' ⟨rfl, ⟨nd, rfl⟩⟩; (try first | exact ⟨rfl, _, World.drewN_drewN _ _ _⟩ | exact ⟨rfl, _, Eq.trans (World.drewN_drewN _ _ _) (congrArg (World.drewN _) (Nat.add_assoc _ _ _))⟩))); try go_wp2_with (first | (go_at_call 50; (with_reducible refine (q07_digit.calls k1 (bt a0 x5_1) t270 _ A7.out).mono ?_); rintro e w' ⟨rfl, ⟨nd, rfl⟩⟩; (try first | exact ⟨rfl, _, World.drewN_drewN _ _ _⟩ | exact ⟨rfl, _, Eq.trans (World.drewN_drewN _ _ _) (congrArg (World.drewN _) (Nat.add_assoc _ _ _))⟩); have p11 : 0 ≤ ((ji8) : Int) := of_decide_eq_true (by assumption); have q11 : (ji8) < (a0.size : Int) := of_decide_eq_true (by assumption); have hx11 := bt_at a0 (ji8); replace p11 := eq_true p11; replace q11 := eq_true q11) | (go_at_call 50; (with_reducible refine (q07_digit.calls k1 (bt a0 (ji8)) t271 _ A12.out).mono ?_); rintro e w' ⟨rfl, ⟨nd, rfl⟩⟩; (try first | exact ⟨rfl, _, World.drewN_drewN _ _ _⟩ | exact ⟨rfl, _, Eq.trans (World.drewN_drewN _ _ _) (congrArg (World.drewN _) (Nat.add_assoc _ _ _))⟩))))
                   (go_ret2); (exact ⟨_, by first | rfl | (simp [errW_none, errW_some] <;> rfl) | (simp only [← hji8]; first | rfl | (simp [errW_none, errW_some] <;> rfl)) | (simp [*, errW_none, errW_some] <;> rfl), by first | exact Kd.R_nil _ _ _ _ _ | exact Kd.N_nil _ _ _ _ _ | exact Kd.V_nil _ _ _ _ _ | exact Kd.Q_nil _ _ _ _ _ | exact Kd.S_nil _ _ _ _ _, by repeat (first | (with_reducible first | exact HB.out | apply bA_ | apply bN_ | apply bD_) | exact HB.out)⟩)
                 · rw [if_neg c14] at H
                   have c14b0 : decide (t271 < 0) = false := decide_eq_false c14; clear c14; (by_cases c15 : x4_1.length < 140737488355328)
                   · rw [if_pos c15] at H
                     have LMc15 := aM_ c15; clear c15; obtain ⟨y272, hy272⟩ : ∃ y_ : List Int, y_ = (x4_1 ++ [(wrap64 ((wrap64 (16 * t270)) + t271)) % 256]) := ⟨_, rfl⟩; (replace H : (q07_Bytes.l0 k1 a0 y272 (wrap64 (x5_1 + 2))) = some (r1, r2) := by first | (rw [hy272]; with_reducible exact H) | (have H2_ := (Option.bind_some _ _).symm.trans H; rw [hy272]; with_reducible exact H2_) | (have H2_ := (Option.bind_some _ _).symm.trans H; with_reducible exact H2_) | with_reducible exact H | (rw [hy272]; exact H) | exact H); have Ny272 := aM_ hy272; clear hy272; have H' := aM_ H; clear H; have p6 : 0 ≤ (x5_1 : Int) := of_decide_eq_true (by assumption); have q6 : x5_1 < (a0.size : Int) := of_decide_eq_true (by assumption); have hx6 := bt_at a0 x5_1; replace p6 := eq_true p6; replace q6 := eq_true q6
                     go_wp2_with (first | (go_at_call 50; (with_reducible refine (q07_digit.calls k1 (bt a0 x5_1) t270 _ A7.out).mono ?_); rintro e w' ⟨rfl, ⟨nd, rfl⟩⟩; (try first | exact ⟨rfl, _, World.drewN_drewN _ _ _⟩ | exact ⟨rfl, _, Eq.trans (World.drewN_drewN _ _ _) (congrArg (World.drewN _) (Nat.add_assoc _ _ _))⟩); have p11 : 0 ≤ ((ji8) : Int) := of_decide_eq_true (by assumption); have q11 : (ji8) < (a0.size : Int) := of_decide_eq_true (by assumption); have hx11 := bt_at a0 (ji8); replace p11 := eq_true p11; replace q11 := eq_true q11) | (go_at_call 50; (with_reducible refine (q07_digit.calls k1 (bt a0 (ji8)) t271 _ A12.out).mono ?_); rintro e w' ⟨rfl, ⟨nd, rfl⟩⟩; (try first | exact ⟨rfl, _, World.drewN_drewN _ _ _⟩ | exact ⟨rfl, _, Eq.trans (World.drewN_drewN _ _ _) (congrArg (World.drewN _) (Nat.add_assoc _ _ _))⟩)) | ((with_reducible refine gate_builtin (b := .append) (xs := #[.tmp 30, .tmp 36]) rfl ?_); at_builtin; refine Kd.R_append (Kd.int .u8) (w0 := w) w.heap.size rfl (.tmp 30) (.tmp 36) 39 5 (.int .u8 0) 1 rfl Tryd.underlying39 info5 rfl (by decide) (by omega) u4 x4_1 ((wrap64 ((wrap64 (16 * t270)) + t271)) % 256) [.int .u8 ((wrap64 ((wrap64 (16 * t270)) + t271)) % 256)] (fun _ => True) (fun _ => False) rfl rfl ?aP (fun _ hk => hk.elim) ?aF ?aO ?aB ?aS ?aL ?_; (case aP => exact rfl); (case aB => exact (by repeat (first | (with_reducible first | exact HB.out | apply bA_ | apply bN_ | apply bD_) | exact HB.out))); (case aF => exact (fun _ _ => trivial)); (case aO => exact (by (with_reducible repeat (first | apply rA_ | apply rN_ | apply rD_)); exact HO_4.out)); (case aS => exact (below_size (by repeat (first | (with_reducible first | exact HB.out | apply bA_ | apply bN_ | apply bD_) | exact HB.out)))); (case aL => have := LMc15.out; omega); intro v273 w16 ho hb hg hat; rw [← Ny272.out] at ho; have n0_ := aM_ (hb); have n1_ := aM_ (ho); clear HB; clear HO_4; have HB := n0_; have HO274 := n1_; clear n0_ n1_; clear ho hb hg hat))
                     repeat (go_quiet (first | (go_at_call 50; (with_reducible refine (q07_digit.calls k1 (bt a0 x5_1) t270 _ A7.out).mono ?_); rintro e w' ⟨rfl, ⟨nd, rfl⟩⟩; (try first | exact ⟨rfl, _, World.drewN_drewN _ _ _⟩ | exact ⟨rfl, _, Eq.trans (World.drewN_drewN _ _ _) (congrArg (World.drewN _) (Nat.add_assoc _ _ _))⟩); have p11 : 0 ≤ ((ji8) : Int) := of_decide_eq_true (by assumption); have q11 : (ji8) < (a0.size : Int) := of_decide_eq_true (by assumption); have hx11 := bt_at a0 (ji8); replace p11 := eq_true p11; replace q11 := eq_true q11) | (go_at_call 50; (with_reducible refine (q07_digit.calls k1 (bt a0 (ji8)) t271 _ A12.out).mono ?_); rintro e w' ⟨rfl, ⟨nd, rfl⟩⟩; (try first | exact ⟨rfl, _, World.drewN_drewN _ _ _⟩ | exact ⟨rfl, _, Eq.trans (World.drewN_drewN _ _ _) (congrArg (World.drewN _) (Nat.add_assoc _ _ _))⟩)) | ((with_reducible refine gate_builtin (b := .append) (xs := #[.tmp 30, .tmp 36]) rfl ?_); at_builtin; refine Kd.R_append (Kd.int .u8) (w0 := w) w.heap.size rfl (.tmp 30) (.tmp 36) 39 5 (.int .u8 0) 1 rfl Tryd.underlying39 info5 rfl (by decide) (by omega) u4 x4_1 ((wrap64 ((wrap64 (16 * t270)) + t271)) % 256) [.int .u8 ((wrap64 ((wrap64 (16 * t270)) + t271)) % 256)] (fun _ => True) (fun _ => False) rfl rfl ?aP (fun _ hk => hk.elim) ?aF ?aO ?aB ?aS ?aL ?_; (case aP => exact rfl); (case aB => exact (by repeat (first | (with_reducible first | exact HB.out | apply bA_ | apply bN_ | apply bD_) | exact HB.out))); (case aF => exact (fun _ _ => trivial)); (case aO => exact (by (with_reducible repeat (first | apply rA_ | apply rN_ | apply rD_)); exact HO_4.out)); (case aS => exact (below_size (by repeat (first | (with_reducible first | exact HB.out | apply bA_ | apply bN_ | apply bD_) | exact HB.out)))); (case aL => have := LMc15.out; omega); intro v273 w16 ho hb hg hat; rw [← Ny272.out] at ho; have n0_ := aM_ (hb); have n1_ := aM_ (ho); clear HB; clear HO_4; have HB := n0_; have HO274 := n1_; clear n0_ n1_; clear ho hb hg hat)); try go_wp2_with (first | (go_at_call 50; (with_reducible refine (q07_digit.calls k1 (bt a0 x5_1) t270 _ A7.out).mono ?_); rintro e w' ⟨rfl, ⟨nd, rfl⟩⟩; (try first | exact ⟨rfl, _, World.drewN_drewN _ _ _⟩ | exact ⟨rfl, _, Eq.trans (World.drewN_drewN _ _ _) (congrArg (World.drewN _) (Nat.add_assoc _ _ _))⟩); have p11 : 0 ≤ ((ji8) : Int) := of_decide_eq_true (by assumption); have q11 : (ji8) < (a0.size : Int) := of_decide_eq_true (by assumption); have hx11 := bt_at a0 (ji8); replace p11 := eq_true p11; replace q11 := eq_true q11) | (go_at_call 50; (with_reducible refine (q07_digit.calls k1 (bt a0 (ji8)) t271 _ A12.out).mono ?_); rintro e w' ⟨rfl, ⟨nd, rfl⟩⟩; (try first | exact ⟨rfl, _, World.drewN_drewN _ _ _⟩ | exact ⟨rfl, _, Eq.trans (World.drewN_drewN _ _ _) (congrArg (World.drewN _) (Nat.add_assoc _ _ _))⟩)) | ((with_reducible refine gate_builtin (b := .append) (xs := #[.tmp 30, .tmp 36]) rfl ?_); at_builtin; refine Kd.R_append (Kd.int .u8) (w0 := w) w.heap.size rfl (.tmp 30) (.tmp 36) 39 5 (.int .u8 0) 1 rfl Tryd.underlying39 info5 rfl (by decide) (by omega) u4 x4_1 ((wrap64 ((wrap64 (16 * t270)) + t271)) % 256) [.int .u8 ((wrap64 ((wrap64 (16 * t270)) + t271)) % 256)] (fun _ => True) (fun _ => False) rfl rfl ?aP (fun _ hk => hk.elim) ?aF ?aO ?aB ?aS ?aL ?_; (case aP => exact rfl); (case aB => exact (by repeat (first | (with_reducible first | exact HB.out | apply bA_ | apply bN_ | apply bD_) | exact HB.out))); (case aF => exact (fun _ _ => trivial)); (case aO => exact (by (with_reducible repeat (first | apply rA_ | apply rN_ | apply rD_)); exact HO_4.out)); (case aS => exact (below_size (by repeat (first | (with_reducible first | exact HB.out | apply bA_ | apply bN_ | apply bD_) | exact HB.out)))); (case aL => have := LMc15.out; omega); intro v273 w16 ho hb hg hat; rw [← Ny272.out] at ho; have n0_ := aM_ (hb); have n1_ := aM_ (ho); clear HB; clear HO_4; have HB := n0_; have HO274 := n1_; clear n0_ n1_; clear ho hb hg hat)))
                     (go_roundg k1)
                     case measure => have := HK1.out; omega
                     case rel => exact ⟨(y272), (wrap64 (x5_1 + 2)), (by first | rfl | (simp; done) | (simp [*]; done)), H', ⟨by have := HK1.out; omega⟩, ⟨by (with_reducible repeat (first | apply rA_ | apply rN_ | apply rD_)); exact HO274.out⟩, ⟨by repeat (first | (with_reducible first | exact HB.out | apply bA_ | apply bN_ | apply bD_) | exact HB.out)⟩⟩
                   (· rw [if_neg c15] at H; exact absurd H (by simp))
             (· rw [if_neg c10] at H; exact absurd H (by simp))
           (· rw [if_neg c9] at H; exact absurd H (by simp))
         (· rw [if_neg c5] at H; exact absurd H (by simp))
       (· rw [if_neg c4] at H; exact absurd H (by simp))
     · rw [if_neg c3] at H
       have c3b0 : decide (x5_1 < 64) = false := decide_eq_false c3; clear c3; simp only [Option.some.injEq, Prod.mk.injEq] at H; obtain ⟨rfl, rfl⟩ := H; go_wp2
       repeat (go_quiet (fail); try go_wp2)
       (go_ret2); (exact ⟨_, by first | rfl | (simp [errW_none, errW_some] <;> rfl) | (simp [*, errW_none, errW_some] <;> rfl), by (with_reducible repeat (first | apply rA_ | apply rN_ | apply rD_)); exact HO_4.out, by repeat (first | (with_reducible first | exact HB.out | apply bA_ | apply bN_ | apply bD_) | exact HB.out)⟩)
 · rw [if_neg c2] at H
   have c2b0 : ((a0.size : Int) == 64) = false := beq_eq_false_iff_ne.mpr c2; have c2b1 : ((a0.size : Int) != 64) = true := bne_iff_ne.mpr c2; simp only [Option.some.injEq, Prod.mk.injEq] at H; obtain ⟨rfl, rfl⟩ := H; (go_enter Tryd.func37, Tryd.ntmps37); go_wp2
   repeat (go_quiet (fail); try go_wp2)
   (go_ret2); (exact ⟨_, by first | rfl | (simp [errW_none, errW_some] <;> rfl) | (simp [*, errW_none, errW_some] <;> rfl), by first | exact Kd.R_nil _ _ _ _ _ | exact Kd.N_nil _ _ _ _ _ | exact Kd.V_nil _ _ _ _ _ | exact Kd.Q_nil _ _ _ _ _ | exact Kd.S_nil _ _ _ _ _, by repeat (first | (with_reducible first | exact HB.out | apply bA_ | apply bN_ | apply bD_) | exact HB.out)⟩)
theorem ref07_digit_all : ∀ c : Fin 256, q07_digit.f 17 (c.1 : Int) = some (if digs.contains (UInt8.ofNat c.1) then dg (UInt8.ofNat c.1) else -1) := by decide +kernel
theorem ref07_digit_ev (s : ByteArray) (i : Nat) (hi : i < s.size) : Ev (fun k => q07_digit.f k (bt s (i : Int))) (if digs.contains (s.data.toList.getD i 0) then dg (s.data.toList.getD i 0) else -1) := by
 have hb : bt s (i : Int) = ((s.data.toList.getD i 0).toNat : Int) := by
  (have hi' : i < s.data.toList.length := by rw [Array.length_toList]; exact hi); rw [List.getD_eq_getElem?_getD, List.getElem?_eq_getElem hi']; unfold bt; rw [dif_pos (by simpa using hi)]; simp; rfl
 rw [hb]; have h := ref07_digit_all ⟨(s.data.toList.getD i 0).toNat, UInt8.toNat_lt _⟩; simp only [UInt8.ofNat_toNat] at h; exact Ev.of (q07_digit.mono _) h
def keyTo (l : List UInt8) (j : Nat) : List Int := (List.range j).map fun i => 16 * dg (l.getD (2 * i) 0) + dg (l.getD (2 * i + 1) 0)
theorem keyTo_succ (l : List UInt8) (j : Nat) : keyTo l (j + 1) = keyTo l j ++ [16 * dg (l.getD (2 * j) 0) + dg (l.getD (2 * j + 1) 0)] := by simp [keyTo, List.range_succ]
theorem keyTo_key (s : ByteArray) : keyTo s.data.toList 32 = keyRow s := by
 unfold keyTo keyRow keyAt; apply List.map_congr_left; intro j hj; have := List.mem_range.1 hj; rw [if_pos (by omega), if_pos (by omega)]
theorem ref07_Bytes_loop (s : ByteArray) (hs : s.size = 64) (d : Nat) : ∀ j : Nat, j + d = 32 → (∀ i, i < 2 * j → digs.contains (s.data.toList.getD i 0) = true) →
 Ev (fun k => q07_Bytes.l0 k s (keyTo s.data.toList j) ((2 * j : Nat) : Int)) (if isKey s then (keyRow s, 0) else ([], 70)) := by
 (have hl : s.data.toList.length = 64 := by rw [Array.length_toList]; exact hs)
 induction d with
 | zero =>
  intro j hj hd; (obtain rfl : j = 32 := by omega)
  have hk : isKey s = true := by
   unfold isKey; rw [decide_eq_true hs, Bool.true_and, List.all_eq_true]; intro x hx; obtain ⟨i, hi, rfl⟩ := List.mem_iff_getElem.1 hx; have := hd i (by omega); (rwa [List.getD_eq_getElem?_getD, List.getElem?_eq_getElem hi] at this)
  rw [if_pos hk, keyTo_key]; refine Ev.step (f := fun _ => some (keyRow s, 0)) (fun k => ?_) (Ev.now _); simp only [q07_Bytes.l0]; rw [if_neg (by omega)]
 | succ d ih =>
  intro j hj hd
  have no : ∀ i, i < 64 → ¬ digs.contains (s.data.toList.getD i 0) = true → isKey s = false := fun i hi hx => by
   unfold isKey
   cases ha : s.data.toList.all (digs.contains ·) with
   | false => rw [Bool.and_false]
   | true =>
    have := List.all_eq_true.1 ha (s.data.toList.getD i 0) (by rw [List.getD_eq_getElem?_getD, List.getElem?_eq_getElem (by omega)]; exact List.getElem_mem _); exact absurd this hx
  (have e1 : wrap64 (((2 * j : Nat) : Int) + 1) = ((2 * j + 1 : Nat) : Int) := by unfold wrap64; omega); (have e2 : wrap64 (((2 * j : Nat) : Int) + 2) = ((2 * (j + 1) : Nat) : Int) := by unfold wrap64; omega); refine Ev.step (fun k => ?_) (?_ : Ev (fun k => (q07_digit.f k (bt s ((2 * j : Nat) : Int))).bind fun t283 => (q07_digit.f k (bt s ((2 * j + 1 : Nat) : Int))).bind fun t284 => (if t283 < 0 then (some (([] : List Int), 70)) else (if t284 < 0 then (some (([] : List Int), 70)) else (if (keyTo s.data.toList j).length < 140737488355328 then (q07_Bytes.l0 k s (keyTo s.data.toList j ++ [(wrap64 ((wrap64 (16 * t283)) + t284)) % 256]) ((2 * (j + 1) : Nat) : Int)) else (none))))) _)
  · simp only [q07_Bytes.l0]
    rw [if_pos (by omega), if_pos (by omega), if_pos (by omega), e1, e2]
    congr 1; funext t; rw [if_pos (by omega), if_pos (by omega)]
  · refine Ev.bind (ref07_digit_ev s (2 * j) (by omega)) (Ev.bind (ref07_digit_ev s (2 * j + 1) (by omega)) ?_)
    (by_cases h0 : digs.contains (s.data.toList.getD (2 * j) 0) = true)
    · have r0 := dg_range _ h0
      rw [if_pos h0]; (by_cases h1 : digs.contains (s.data.toList.getD (2 * j + 1) 0) = true)
      · have r1 := dg_range _ h1
        rw [if_pos h1]
        have hv : (wrap64 ((wrap64 (16 * dg (s.data.toList.getD (2 * j) 0))) + dg (s.data.toList.getD (2 * j + 1) 0))) % 256 = 16 * dg (s.data.toList.getD (2 * j) 0) + dg (s.data.toList.getD (2 * j + 1) 0) := by
         generalize dg (s.data.toList.getD (2 * j) 0) = p at *; generalize dg (s.data.toList.getD (2 * j + 1) 0) = q at *; unfold wrap64; omega
        refine Ev.congr (fun k => ?_) (ih (j + 1) (by omega) (fun i hi => ?_)); (· rw [if_neg (by omega), if_neg (by omega), if_pos (by simp [keyTo]; omega), hv, keyTo_succ]); (· (by_cases e : i < 2 * j); (· exact hd i e); (· (by_cases e' : i = 2 * j); (· subst e'; exact h0); (· (obtain rfl : i = 2 * j + 1 := by omega); exact h1)))
      (· rw [if_neg h1, no _ (by omega) h1]; refine Ev.congr (fun k => ?_) (Ev.now _); rw [if_neg (by omega), if_pos (by omega)]; rfl)
    (· rw [if_neg h0, no _ (by omega) h0]; refine Ev.congr (fun k => ?_) (Ev.now _); rw [if_pos (by omega)]; rfl)
theorem ref07_Bytes_ev (s : ByteArray) : Ev (fun k => q07_Bytes.f k s) (if isKey s then (keyRow s, 0) else ([], 70)) := by
 (by_cases hs : s.size = 64); (· refine Ev.congr (fun k => ?_) (ref07_Bytes_loop s hs 32 0 (by omega) (fun i hi => by omega)); unfold q07_Bytes.f; rw [if_pos (by omega)]; rfl); (· (have hk : isKey s = false := by unfold isKey; rw [decide_eq_false hs, Bool.false_and]); rw [hk]; refine Ev.congr (fun k => ?_) (Ev.now _); unfold q07_Bytes.f; rw [if_neg (by omega)]; rfl)
def q07_Check.f (k : Nat) (a0 : ByteArray) : Option (Bool) := (q07_Bytes.f k a0).bind fun bt275 => (some (bt275.2 == 0))
theorem q07_Check.mono : ∀ a0 k, LeO (q07_Check.f k a0) (q07_Check.f (k + 1) a0) := by
 intro a0 k; unfold q07_Check.f
 repeat' first
  | (with_reducible exact q07_Bytes.mono _ _)
  | (with_reducible exact LeO.refl _)
  | (with_reducible exact LeO.none _)
  | (with_reducible refine LeO.ite ?_ ?_)
  | (with_reducible refine LeO.bind ?_ (fun _ => ?_))
  | exact LeO.none _
  | refine LeO.ite ?_ ?_
  | refine LeO.bind ?_ (fun _ => ?_)
set_option maxHeartbeats 8000000 in
set_option maxRecDepth 100000 in
theorem q07_Check.calls (k : Nat) (a0 : ByteArray) (r : Bool) (w : World) (h : q07_Check.f k a0 = some r) :
 Calls Tryd.prog 26 #[.string a0] w fun e w' => e = .returned (.bool r) ∧ Below w.heap.size w w' := by
 have HB := aM_ (Below.refl w.heap.size w); have H : ((q07_Bytes.f k a0).bind fun bt275 => (some (bt275.2 == 0))) = some r := h; clear h; replace H := Option.bind_eq_some_iff.mp H; obtain ⟨⟨t275, t276⟩, A20, H⟩ := H; replace H : (some (t276 == 0)) = some r := H; have A2 := aM_ A20; clear A20; obtain rfl := Option.some.inj H; simp only [Option.some.injEq, Prod.mk.injEq] at H; obtain ⟨rfl⟩ := H; (go_enter Tryd.func26, Tryd.ntmps26); (go_wp2_with (first | ((with_reducible refine gate_callee (f := 37) rfl ?_); refine goesL_ (some 7) rfl rfl Tryd.func37 (by kernel_rfl) rfl #[.string a0] rfl (by (try simp only [List.map_toArray, List.map_cons, List.map_nil]); first | done | rfl | (simp only [List.length_drop, List.length_take]; rfl)) ?_; (with_reducible refine (q07_Bytes.calls k a0 t275 t276 _ A2.out).mono ?_); rintro e w3 ⟨v277, rfl, ho0, hb⟩; refine ⟨_, rfl, ?_⟩; have n0_ := aM_ (Kd.R_lower ho0 (below_size (by repeat (first | (with_reducible first | exact HB.out | apply bA_ | apply bN_ | apply bD_) | exact HB.out)))); have n1_ := aM_ (below_step (by repeat (first | (with_reducible first | exact HB.out | apply bA_ | apply bN_ | apply bD_) | exact HB.out)) hb); clear HB; have HO278 := n0_; have HB := n1_; clear n0_ n1_; (try clear hb); (try clear hb2); (try clear hk); (try clear hi); (try clear ho0)))); go_ret; (exact ⟨by first | rfl | (simp [errW_none, errW_some] <;> rfl) | (simp [*, errW_none, errW_some] <;> rfl), by repeat (first | (with_reducible first | exact HB.out | apply bA_ | apply bN_ | apply bD_) | exact HB.out)⟩)
theorem ref07_Check_ev (s : ByteArray) : Ev (fun k => q07_Check.f k s) (isKey s) := by
 refine Ev.congr (fun k => ?_) (Ev.bind (f := fun _ b => some (b.2 == 0)) (ref07_Bytes_ev s) ?_); (· unfold q07_Check.f; rfl); (· (cases h : isKey s); (· exact Ev.now _); (· exact Ev.now _))
end Go.Proofs.YtoobchhfcobbpaaDoor.Fn
