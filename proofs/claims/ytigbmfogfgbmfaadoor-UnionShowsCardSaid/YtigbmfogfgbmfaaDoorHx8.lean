import Derived.Test.YtigbmfogfgbmfaaDoorHx0
import Derived.Test.YtigbmfogfgbmfaaDoorHx7
namespace Go.Proofs.YtigbmfogfgbmfaaDoor.Fn
set_option maxHeartbeats 8000000
set_option maxRecDepth 100000
open Go.RowKit Go.Proofs.YtigbmfogfgbmfaaDoorW.PrintWords Go.Proofs.YtigbmfogfgbmfaaDoorW.PrintLast Go.Proofs.YtigbmfogfgbmfaaDoorW.PrintMore
attribute [local go_sem] max2_int min2_int max_two min_two max_three min_three max_four min_four
set_option linter.unusedVariables false
set_option linter.unusedSimpArgs false
def q08_rising.l0 : Nat → List ByteArray → Int → Option (Bool)
  | 0, _, _ => none
  | k + 1, x0, x3 => if x3 < (x0.length : Int) then (if 0 ≤ x3 then ((q01_Check.f k (rdOf ByteArray.empty x0 x3)).bind fun t261 => (if t261 = 0 then (if x3 > 0 then (if 0 ≤ (wrap64 (x3 - 1)) then (if (wrap64 (x3 - 1)) < (x0.length : Int) then (if (Op.bytesLess ((rdOf ByteArray.empty x0 x3).toList) ((rdOf ByteArray.empty x0 (wrap64 (x3 - 1))).toList) || ((rdOf ByteArray.empty x0 x3).toList) == ((rdOf ByteArray.empty x0 (wrap64 (x3 - 1))).toList)) = true then (some false) else (q08_rising.l0 k x0 (wrap64 (x3 + 1)))) else (none)) else (none)) else (q08_rising.l0 k x0 (wrap64 (x3 + 1)))) else (some false))) else (none)) else (some true)
def q08_rising.f (k : Nat) (l0 : List ByteArray) : Option (Bool) := q08_rising.l0 k l0 0
theorem q08_rising.mono_l : ∀ k, (∀ y0 y1, LeO (q08_rising.l0 k y0 y1) (q08_rising.l0 (k + 1) y0 y1))
  | 0 => fun _ _ r h => by simp [q08_rising.l0] at h
  | k + 1 => by
    have ih0 := q08_rising.mono_l k
    · intro y0 y1
      unfold q08_rising.l0
      repeat' first
      | (with_reducible exact ih0 _ _)
      | (with_reducible exact q01_Check.mono _ _)
      | (with_reducible exact LeO.refl _)
      | (with_reducible exact LeO.none _)
      | (with_reducible refine LeO.ite ?_ ?_)
      | (with_reducible refine LeO.bind ?_ (fun _ => ?_))
      | exact ih0 _ _
      | exact LeO.none _
      | refine LeO.ite ?_ ?_
      | refine LeO.bind ?_ (fun _ => ?_)
theorem q08_rising.mono : ∀ a0 k, LeO (q08_rising.f k a0) (q08_rising.f (k + 1) a0) := by
 intro a0 k; have ih0 := q08_rising.mono_l k; unfold q08_rising.f
 repeat' first
     | (with_reducible exact ih0 _ _)
     | (with_reducible exact q01_Check.mono _ _)
     | (with_reducible exact LeO.refl _)
     | (with_reducible exact LeO.none _)
     | (with_reducible refine LeO.ite ?_ ?_)
     | (with_reducible refine LeO.bind ?_ (fun _ => ?_))
     | exact ih0 _ _
     | exact LeO.none _
     | refine LeO.ite ?_ ?_
     | refine LeO.bind ?_ (fun _ => ?_)
theorem q08_rising.calls (k : Nat) (A0 : Option Addr) (c0 : Nat) (l0 : List ByteArray) (r : Bool) (w : World) (hr0 : Kd.C Kd.string w A0 l0.length l0) (hc0 : l0.length ≤ c0) (h : q08_rising.f k l0 = some r) :
    Calls Tryd.prog 39 #[.slice A0 l0.length c0] w fun e w' => e = .returned (.bool r) ∧ Drawn0 w w' := by
 have HR0 := aM_ hr0; have HC0 := aM_ hc0; clear hr0 hc0; have H : (q08_rising.l0 k l0 0) = some r := h; clear h; have H' := aM_ H; clear H; (go_enter Tryd.func39, Tryd.ntmps39); go_wp2
 repeat (go_quiet (fail); try go_wp2)
 (go_loopg [3] k (fun kq v3 w' => ∃ (x3_1 : Int), v3 = .int .i64 x3_1 ∧ Aside0 (q08_rising.l0 kq l0 x3_1 = some r) ∧ Aside0 (kq ≤ k) ∧ Drawn0 w w'))
 case atStart => exact ⟨(0), (by first | rfl | (simp; done) | (simp [*]; done)), H', ⟨Nat.le_refl _⟩, by repeat (first | exact Drawn0.refl _ | apply Drawn0.step)⟩
 case round =>
  clear H'; obtain ⟨x3_1, rfl, HA, HK1, ⟨m1, rfl⟩⟩ := hrel
  cases gk with
  | zero => exact absurd HA.out (by simp [q08_rising.l0])
  | succ k1 =>
   have H := HA.out; clear HA; simp only [q08_rising.l0] at H; (by_cases c2 : x3_1 < (l0.length : Int))
   · rw [if_pos c2] at H
     have c2b0 : decide (x3_1 < (l0.length : Int)) = true := dT_ c2; clear c2; (by_cases c3 : 0 ≤ x3_1)
     · rw [if_pos c3] at H
       have c3b0 : decide (0 ≤ x3_1) = true := dT_ c3; clear c3; replace H := Option.bind_eq_some_iff.mp H; obtain ⟨t261, A40, H⟩ := H; replace H : (if t261 = 0 then (if x3_1 > 0 then (if 0 ≤ (wrap64 (x3_1 - 1)) then (if (wrap64 (x3_1 - 1)) < (l0.length : Int) then (if (Op.bytesLess ((rdOf ByteArray.empty l0 x3_1).toList) ((rdOf ByteArray.empty l0 (wrap64 (x3_1 - 1))).toList) || ((rdOf ByteArray.empty l0 x3_1).toList) == ((rdOf ByteArray.empty l0 (wrap64 (x3_1 - 1))).toList)) = true then (some false) else (q08_rising.l0 k1 l0 (wrap64 (x3_1 + 1)))) else (none)) else (none)) else (q08_rising.l0 k1 l0 (wrap64 (x3_1 + 1)))) else (some false)) = some r := H; have A4 := aM_ A40; clear A40; (by_cases c5 : t261 = 0)
       · rw [if_pos c5] at H
         have c5b0 : (t261 == 0) = true := beq_iff_eq.mpr c5; have c5b1 : (t261 != 0) = false := bne_eq_false_iff_eq.mpr c5; clear c5; (by_cases c6 : x3_1 > 0)
         · rw [if_pos c6] at H
           have c6b0 : decide (0 < x3_1) = true := dT_ c6; clear c6; obtain ⟨ji7, hji7⟩ : ∃ j_ : Int, (wrap64 (x3_1 - 1)) = j_ := ⟨_, rfl⟩; (replace H : (if 0 ≤ (ji7) then (if (ji7) < (l0.length : Int) then (if (Op.bytesLess ((rdOf ByteArray.empty l0 x3_1).toList) ((rdOf ByteArray.empty l0 (ji7)).toList) || ((rdOf ByteArray.empty l0 x3_1).toList) == ((rdOf ByteArray.empty l0 (ji7)).toList)) = true then (some false) else (q08_rising.l0 k1 l0 (wrap64 (x3_1 + 1)))) else (none)) else (none)) = some r := by first | (rw [hji7] at H; exact H) | (simp only [hji7] at H ⊢; exact H)); (try rw [hji7] at A4); have hji7w : (IntKind.i64.wrap (x3_1 - 1)) = ji7 := (i64_w _).trans hji7; (by_cases c8 : 0 ≤ (ji7))
           · rw [if_pos c8] at H
             have c8b0 : decide (0 ≤ (ji7)) = true := dT_ c8; clear c8; (by_cases c9 : (ji7) < (l0.length : Int))
             · rw [if_pos c9] at H
               have c9b0 : decide ((ji7) < (l0.length : Int)) = true := dT_ c9; clear c9; (by_cases c10 : (Op.bytesLess ((rdOf ByteArray.empty l0 x3_1).toList) ((rdOf ByteArray.empty l0 (ji7)).toList) || ((rdOf ByteArray.empty l0 x3_1).toList) == ((rdOf ByteArray.empty l0 (ji7)).toList)) = true)
               · rw [if_pos c10] at H
                 have c10b0 : (Op.bytesLess ((rdOf ByteArray.empty l0 x3_1).toList) ((rdOf ByteArray.empty l0 (ji7)).toList) || ((rdOf ByteArray.empty l0 x3_1).toList) == ((rdOf ByteArray.empty l0 (ji7)).toList)) = true := c10; (try (have c10b1 : decide (Op.bytesLess ((rdOf ByteArray.empty l0 x3_1).toList) ((rdOf ByteArray.empty l0 (ji7)).toList) || ((rdOf ByteArray.empty l0 x3_1).toList) = ((rdOf ByteArray.empty l0 (ji7)).toList)) = true := by simpa using c10)); (try (have c10b2 : (Op.bytesLess ((rdOf ByteArray.empty l0 x3_1).toList) ((rdOf ByteArray.empty l0 (ji7)).toList) || ((rdOf ByteArray.empty l0 x3_1).toList) == ((rdOf ByteArray.empty l0 (ji7)).toList)) = true := by simpa using c10)); clear c10; obtain rfl := oJ_ H; simp only [oI_, pI_] at H; obtain ⟨rfl⟩ := H; have p260 : 0 ≤ (x3_1 : Int) := oD_ (by assumption); have q260 : x3_1 < (l0.length : Int) := oD_ (by assumption); obtain ⟨ad260, e260, hx260_0⟩ := Kd.at_string HR0.out x3_1 p260 q260; (cases e260); replace p260 := eq_true p260; replace q260 := eq_true q260; (go_wp2_with (first | (go_at_call 50; (with_reducible refine (q01_Check.calls k1 (rdOf ByteArray.empty l0 x3_1) t261 _ A4.out).mono ?_); rintro e w' ⟨rfl, ⟨nd, rfl⟩⟩; (try first | exact ⟨rfl, _, World.drewN_drewN _ _ _⟩ | exact ⟨rfl, _, Eq.trans (World.drewN_drewN _ _ _) (congrArg (World.drewN _) (Nat.add_assoc _ _ _))⟩); have p262 : 0 ≤ (x3_1 : Int) := oD_ (by assumption); have q262 : x3_1 < (l0.length : Int) := oD_ (by assumption); obtain ⟨ad262, e262, hx262_0⟩ := Kd.at_string HR0.out x3_1 p262 q262; obtain rfl : ad260 = ad262 := (by injection e262); replace p262 := eq_true p262; replace q262 := eq_true q262; have p263 : 0 ≤ ((ji7) : Int) := oD_ (by assumption); have q263 : (ji7) < (l0.length : Int) := oD_ (by assumption); obtain ⟨ad263, e263, hx263_0⟩ := Kd.at_string HR0.out (ji7) p263 q263; obtain rfl : ad260 = ad263 := (by injection e263); replace p263 := eq_true p263; replace q263 := eq_true q263)))
                 repeat (go_quiet (first | (go_at_call 50; (with_reducible refine (q01_Check.calls k1 (rdOf ByteArray.empty l0 x3_1) t261 _ A4.out).mono ?_); rintro e w' ⟨rfl, ⟨nd, rfl⟩⟩; (try first | exact ⟨rfl, _, World.drewN_drewN _ _ _⟩ | exact ⟨rfl, _, Eq.trans (World.drewN_drewN _ _ _) (congrArg (World.drewN _) (Nat.add_assoc _ _ _))⟩); have p262 : 0 ≤ (x3_1 : Int) := oD_ (by assumption); have q262 : x3_1 < (l0.length : Int) := oD_ (by assumption); obtain ⟨ad262, e262, hx262_0⟩ := Kd.at_string HR0.out x3_1 p262 q262; obtain rfl : ad260 = ad262 := (by injection e262); replace p262 := eq_true p262; replace q262 := eq_true q262; have p263 : 0 ≤ ((ji7) : Int) := oD_ (by assumption); have q263 : (ji7) < (l0.length : Int) := oD_ (by assumption); obtain ⟨ad263, e263, hx263_0⟩ := Kd.at_string HR0.out (ji7) p263 q263; obtain rfl : ad260 = ad263 := (by injection e263); replace p263 := eq_true p263; replace q263 := eq_true q263)); try go_wp2_with (first | (go_at_call 50; (with_reducible refine (q01_Check.calls k1 (rdOf ByteArray.empty l0 x3_1) t261 _ A4.out).mono ?_); rintro e w' ⟨rfl, ⟨nd, rfl⟩⟩; (try first | exact ⟨rfl, _, World.drewN_drewN _ _ _⟩ | exact ⟨rfl, _, Eq.trans (World.drewN_drewN _ _ _) (congrArg (World.drewN _) (Nat.add_assoc _ _ _))⟩); have p262 : 0 ≤ (x3_1 : Int) := oD_ (by assumption); have q262 : x3_1 < (l0.length : Int) := oD_ (by assumption); obtain ⟨ad262, e262, hx262_0⟩ := Kd.at_string HR0.out x3_1 p262 q262; obtain rfl : ad260 = ad262 := (by injection e262); replace p262 := eq_true p262; replace q262 := eq_true q262; have p263 : 0 ≤ ((ji7) : Int) := oD_ (by assumption); have q263 : (ji7) < (l0.length : Int) := oD_ (by assumption); obtain ⟨ad263, e263, hx263_0⟩ := Kd.at_string HR0.out (ji7) p263 q263; obtain rfl : ad260 = ad263 := (by injection e263); replace p263 := eq_true p263; replace q263 := eq_true q263)))
                 go_ret; (exact ⟨by first | rfl | (simp; done) | (simp only [← hji7] <;> (first | rfl | simp)) | (simp [*]; done), by repeat (first | exact Drawn0.refl _ | apply Drawn0.step)⟩)
               · rw [if_neg c10] at H
                 (have c10b0 : (Op.bytesLess ((rdOf ByteArray.empty l0 x3_1).toList) ((rdOf ByteArray.empty l0 (ji7)).toList) || ((rdOf ByteArray.empty l0 x3_1).toList) == ((rdOf ByteArray.empty l0 (ji7)).toList)) = false := by simpa using c10); (try (have c10b1 : decide (Op.bytesLess ((rdOf ByteArray.empty l0 x3_1).toList) ((rdOf ByteArray.empty l0 (ji7)).toList) || ((rdOf ByteArray.empty l0 x3_1).toList) = ((rdOf ByteArray.empty l0 (ji7)).toList)) = false := by simpa using c10)); (try (have c10b2 : (Op.bytesLess ((rdOf ByteArray.empty l0 x3_1).toList) ((rdOf ByteArray.empty l0 (ji7)).toList) || ((rdOf ByteArray.empty l0 x3_1).toList) == ((rdOf ByteArray.empty l0 (ji7)).toList)) = false := by simpa using c10)); (try (have c10b3 : ¬ (Op.bytesLess ((rdOf ByteArray.empty l0 x3_1).toList) ((rdOf ByteArray.empty l0 (ji7)).toList) || ((rdOf ByteArray.empty l0 x3_1).toList) = ((rdOf ByteArray.empty l0 (ji7)).toList)) := by simpa using c10)); clear c10; have H' := aM_ H; clear H; have p260 : 0 ≤ (x3_1 : Int) := oD_ (by assumption); have q260 : x3_1 < (l0.length : Int) := oD_ (by assumption); obtain ⟨ad260, e260, hx260_0⟩ := Kd.at_string HR0.out x3_1 p260 q260; (cases e260); replace p260 := eq_true p260; replace q260 := eq_true q260; (go_wp2_with (first | (go_at_call 50; (with_reducible refine (q01_Check.calls k1 (rdOf ByteArray.empty l0 x3_1) t261 _ A4.out).mono ?_); rintro e w' ⟨rfl, ⟨nd, rfl⟩⟩; (try first | exact ⟨rfl, _, World.drewN_drewN _ _ _⟩ | exact ⟨rfl, _, Eq.trans (World.drewN_drewN _ _ _) (congrArg (World.drewN _) (Nat.add_assoc _ _ _))⟩); have p262 : 0 ≤ (x3_1 : Int) := oD_ (by assumption); have q262 : x3_1 < (l0.length : Int) := oD_ (by assumption); obtain ⟨ad262, e262, hx262_0⟩ := Kd.at_string HR0.out x3_1 p262 q262; obtain rfl : ad260 = ad262 := (by injection e262); replace p262 := eq_true p262; replace q262 := eq_true q262; have p263 : 0 ≤ ((ji7) : Int) := oD_ (by assumption); have q263 : (ji7) < (l0.length : Int) := oD_ (by assumption); obtain ⟨ad263, e263, hx263_0⟩ := Kd.at_string HR0.out (ji7) p263 q263; obtain rfl : ad260 = ad263 := (by injection e263); replace p263 := eq_true p263; replace q263 := eq_true q263)))
                 repeat (go_quiet (first | (go_at_call 50; (with_reducible refine (q01_Check.calls k1 (rdOf ByteArray.empty l0 x3_1) t261 _ A4.out).mono ?_); rintro e w' ⟨rfl, ⟨nd, rfl⟩⟩; (try first | exact ⟨rfl, _, World.drewN_drewN _ _ _⟩ | exact ⟨rfl, _, Eq.trans (World.drewN_drewN _ _ _) (congrArg (World.drewN _) (Nat.add_assoc _ _ _))⟩); have p262 : 0 ≤ (x3_1 : Int) := oD_ (by assumption); have q262 : x3_1 < (l0.length : Int) := oD_ (by assumption); obtain ⟨ad262, e262, hx262_0⟩ := Kd.at_string HR0.out x3_1 p262 q262; obtain rfl : ad260 = ad262 := (by injection e262); replace p262 := eq_true p262; replace q262 := eq_true q262; have p263 : 0 ≤ ((ji7) : Int) := oD_ (by assumption); have q263 : (ji7) < (l0.length : Int) := oD_ (by assumption); obtain ⟨ad263, e263, hx263_0⟩ := Kd.at_string HR0.out (ji7) p263 q263; obtain rfl : ad260 = ad263 := (by injection e263); replace p263 := eq_true p263; replace q263 := eq_true q263)); try go_wp2_with (first | (go_at_call 50; (with_reducible refine (q01_Check.calls k1 (rdOf ByteArray.empty l0 x3_1) t261 _ A4.out).mono ?_); rintro e w' ⟨rfl, ⟨nd, rfl⟩⟩; (try first | exact ⟨rfl, _, World.drewN_drewN _ _ _⟩ | exact ⟨rfl, _, Eq.trans (World.drewN_drewN _ _ _) (congrArg (World.drewN _) (Nat.add_assoc _ _ _))⟩); have p262 : 0 ≤ (x3_1 : Int) := oD_ (by assumption); have q262 : x3_1 < (l0.length : Int) := oD_ (by assumption); obtain ⟨ad262, e262, hx262_0⟩ := Kd.at_string HR0.out x3_1 p262 q262; obtain rfl : ad260 = ad262 := (by injection e262); replace p262 := eq_true p262; replace q262 := eq_true q262; have p263 : 0 ≤ ((ji7) : Int) := oD_ (by assumption); have q263 : (ji7) < (l0.length : Int) := oD_ (by assumption); obtain ⟨ad263, e263, hx263_0⟩ := Kd.at_string HR0.out (ji7) p263 q263; obtain rfl : ad260 = ad263 := (by injection e263); replace p263 := eq_true p263; replace q263 := eq_true q263)))
                 (go_roundg k1)
                 case measure => have := HK1.out; omega
                 case rel => exact ⟨(wrap64 (x3_1 + 1)), (by first | rfl | (simp; done) | (simp [*]; done)), H', ⟨by have := HK1.out; omega⟩, by repeat (first | exact Drawn0.refl _ | apply Drawn0.step)⟩
             (· rw [if_neg c9] at H; exact absurd H (by simp))
           (· rw [if_neg c8] at H; exact absurd H (by simp))
         · rw [if_neg c6] at H
           have c6b0 : decide (0 < x3_1) = false := decide_eq_false c6; clear c6; have H' := aM_ H; clear H; have p260 : 0 ≤ (x3_1 : Int) := oD_ (by assumption); have q260 : x3_1 < (l0.length : Int) := oD_ (by assumption); obtain ⟨ad260, e260, hx260_0⟩ := Kd.at_string HR0.out x3_1 p260 q260; (cases e260); replace p260 := eq_true p260; replace q260 := eq_true q260; (go_wp2_with (first | (go_at_call 50; (with_reducible refine (q01_Check.calls k1 (rdOf ByteArray.empty l0 x3_1) t261 _ A4.out).mono ?_); rintro e w' ⟨rfl, ⟨nd, rfl⟩⟩; (try first | exact ⟨rfl, _, World.drewN_drewN _ _ _⟩ | exact ⟨rfl, _, Eq.trans (World.drewN_drewN _ _ _) (congrArg (World.drewN _) (Nat.add_assoc _ _ _))⟩))))
           repeat (go_quiet (first | (go_at_call 50; (with_reducible refine (q01_Check.calls k1 (rdOf ByteArray.empty l0 x3_1) t261 _ A4.out).mono ?_); rintro e w' ⟨rfl, ⟨nd, rfl⟩⟩; (try first | exact ⟨rfl, _, World.drewN_drewN _ _ _⟩ | exact ⟨rfl, _, Eq.trans (World.drewN_drewN _ _ _) (congrArg (World.drewN _) (Nat.add_assoc _ _ _))⟩))); try go_wp2_with (first | (go_at_call 50; (with_reducible refine (q01_Check.calls k1 (rdOf ByteArray.empty l0 x3_1) t261 _ A4.out).mono ?_); rintro e w' ⟨rfl, ⟨nd, rfl⟩⟩; (try first | exact ⟨rfl, _, World.drewN_drewN _ _ _⟩ | exact ⟨rfl, _, Eq.trans (World.drewN_drewN _ _ _) (congrArg (World.drewN _) (Nat.add_assoc _ _ _))⟩))))
           (go_roundg k1)
           case measure => have := HK1.out; omega
           case rel => exact ⟨(wrap64 (x3_1 + 1)), (by first | rfl | (simp; done) | (simp [*]; done)), H', ⟨by have := HK1.out; omega⟩, by repeat (first | exact Drawn0.refl _ | apply Drawn0.step)⟩
       · rw [if_neg c5] at H
         have c5b0 : (t261 == 0) = false := beq_eq_false_iff_ne.mpr c5; have c5b1 : (t261 != 0) = true := bne_iff_ne.mpr c5; obtain rfl := oJ_ H; simp only [oI_, pI_] at H; obtain ⟨rfl⟩ := H; have p260 : 0 ≤ (x3_1 : Int) := oD_ (by assumption); have q260 : x3_1 < (l0.length : Int) := oD_ (by assumption); obtain ⟨ad260, e260, hx260_0⟩ := Kd.at_string HR0.out x3_1 p260 q260; (cases e260); replace p260 := eq_true p260; replace q260 := eq_true q260; (go_wp2_with (first | (go_at_call 50; (with_reducible refine (q01_Check.calls k1 (rdOf ByteArray.empty l0 x3_1) t261 _ A4.out).mono ?_); rintro e w' ⟨rfl, ⟨nd, rfl⟩⟩; (try first | exact ⟨rfl, _, World.drewN_drewN _ _ _⟩ | exact ⟨rfl, _, Eq.trans (World.drewN_drewN _ _ _) (congrArg (World.drewN _) (Nat.add_assoc _ _ _))⟩))))
         repeat (go_quiet (first | (go_at_call 50; (with_reducible refine (q01_Check.calls k1 (rdOf ByteArray.empty l0 x3_1) t261 _ A4.out).mono ?_); rintro e w' ⟨rfl, ⟨nd, rfl⟩⟩; (try first | exact ⟨rfl, _, World.drewN_drewN _ _ _⟩ | exact ⟨rfl, _, Eq.trans (World.drewN_drewN _ _ _) (congrArg (World.drewN _) (Nat.add_assoc _ _ _))⟩))); try go_wp2_with (first | (go_at_call 50; (with_reducible refine (q01_Check.calls k1 (rdOf ByteArray.empty l0 x3_1) t261 _ A4.out).mono ?_); rintro e w' ⟨rfl, ⟨nd, rfl⟩⟩; (try first | exact ⟨rfl, _, World.drewN_drewN _ _ _⟩ | exact ⟨rfl, _, Eq.trans (World.drewN_drewN _ _ _) (congrArg (World.drewN _) (Nat.add_assoc _ _ _))⟩))))
         go_ret; exact ⟨by first | rfl | (simp; done) | (simp [*]; done), by repeat (first | exact Drawn0.refl _ | apply Drawn0.step)⟩
     (· rw [if_neg c3] at H; exact absurd H (by simp))
   · rw [if_neg c2] at H
     have c2b0 : decide (x3_1 < (l0.length : Int)) = false := decide_eq_false c2; clear c2; obtain rfl := oJ_ H; simp only [oI_, pI_] at H; obtain ⟨rfl⟩ := H; go_wp2
     repeat (go_quiet (fail); try go_wp2)
     go_ret; exact ⟨by first | rfl | (simp; done) | (simp [*]; done), by repeat (first | exact Drawn0.refl _ | apply Drawn0.step)⟩
def q08_within.f (a0 : Int) (a1 : Int) (a2 : Int) : Option (Bool) := if a0 ≥ a1 then (some (decide (a0 ≤ a2))) else (some false)
theorem q08_within.calls (a0 : Int) (a1 : Int) (a2 : Int) (r : Bool) (w : World) (h : q08_within.f a0 a1 a2 = some r) :
    Calls Tryd.prog 40 #[.int .i64 a0, .int .i64 a1, .int .i64 a2] w fun e w' => e = .returned (.bool r) ∧ Drawn0 w w' := by
 have H : (if a0 ≥ a1 then (some (decide (a0 ≤ a2))) else (some false)) = some r := h; clear h; (by_cases c4 : a0 ≥ a1); (· rw [if_pos c4] at H; have c4b0 : decide (a1 ≤ a0) = true := dT_ c4; clear c4; obtain rfl := oJ_ H; simp only [oI_, pI_] at H; obtain ⟨rfl⟩ := H; (go_enter Tryd.func40, Tryd.ntmps40); go_wp2; go_ret; exact ⟨by first | rfl | (simp; done) | (simp [*]; done), by repeat (first | exact Drawn0.refl _ | apply Drawn0.step)⟩); (· rw [if_neg c4] at H; have c4b0 : decide (a1 ≤ a0) = false := decide_eq_false c4; clear c4; obtain rfl := oJ_ H; simp only [oI_, pI_] at H; obtain ⟨rfl⟩ := H; (go_enter Tryd.func40, Tryd.ntmps40); go_wp2; go_ret; exact ⟨by first | rfl | (simp; done) | (simp [*]; done), by repeat (first | exact Drawn0.refl _ | apply Drawn0.step)⟩)
mutual
def q08_Listing.j0 : Nat → Bool → Bool → List ByteArray → List Int → Option (Bool)
  | 0, _, _, _, _ => none
  | k + 1, x22, x265000, x265001, x265002 => if x22 = true then (some false) else (q08_Listing.l0 k 0 x265000 x265001 x265002)
def q08_Listing.l0 : Nat → Int → Bool → List ByteArray → List Int → Option (Bool)
  | 0, _, _, _, _ => none
  | k + 1, x3, x265000, x265001, x265002 => if x3 < (x265002.length : Int) then (if 0 ≤ x3 then ((q08_within.f (rd x265002 x3) 0 1024).bind fun t267 => (if t267 = true then (if x265000 = true then (if (rd x265002 x3) = 0 then (some false) else (q08_Listing.l0 k (wrap64 (x3 + 1)) x265000 x265001 x265002)) else (q08_Listing.l0 k (wrap64 (x3 + 1)) x265000 x265001 x265002)) else (some false))) else (none)) else (some true)
end
def q08_Listing.f (k : Nat) (a0_0 : Bool) (l0_1 : List ByteArray) (l0_2 : List Int) : Option (Bool) := if (l0_1.length : Int) > 256 then (q08_Listing.j0 k true a0_0 l0_1 l0_2) else ((q08_rising.f k l0_1).bind fun t265 => (if t265 = true then (q08_Listing.j0 k ((l0_2.length : Int) != (l0_1.length : Int)) a0_0 l0_1 l0_2) else (q08_Listing.j0 k true a0_0 l0_1 l0_2)))
theorem q08_Listing.mono_l : ∀ k, (∀ y0 y1 y2 y3, LeO (q08_Listing.j0 k y0 y1 y2 y3) (q08_Listing.j0 (k + 1) y0 y1 y2 y3)) ∧ (∀ y0 y1 y2 y3, LeO (q08_Listing.l0 k y0 y1 y2 y3) (q08_Listing.l0 (k + 1) y0 y1 y2 y3))
  | 0 => ⟨fun _ _ _ _ r h => by simp [q08_Listing.j0] at h, fun _ _ _ _ r h => by simp [q08_Listing.l0] at h⟩
  | k + 1 => by
    obtain ⟨ih0, ih1⟩ := q08_Listing.mono_l k
    refine ⟨?_, ?_⟩
    · intro y0 y1 y2 y3
      unfold q08_Listing.j0
      repeat' first
      | (with_reducible exact ih0 _ _ _ _)
      | (with_reducible exact ih1 _ _ _ _)
      | (with_reducible exact q08_rising.mono _ _)
      | (with_reducible exact LeO.refl _)
      | (with_reducible exact LeO.none _)
      | (with_reducible refine LeO.ite ?_ ?_)
      | (with_reducible refine LeO.bind ?_ (fun _ => ?_))
      | exact ih0 _ _ _ _
      | exact ih1 _ _ _ _
      | exact LeO.none _
      | refine LeO.ite ?_ ?_
      | refine LeO.bind ?_ (fun _ => ?_)
    · intro y0 y1 y2 y3
      unfold q08_Listing.l0
      repeat' first
      | (with_reducible exact ih0 _ _ _ _)
      | (with_reducible exact ih1 _ _ _ _)
      | (with_reducible exact q08_rising.mono _ _)
      | (with_reducible exact LeO.refl _)
      | (with_reducible exact LeO.none _)
      | (with_reducible refine LeO.ite ?_ ?_)
      | (with_reducible refine LeO.bind ?_ (fun _ => ?_))
      | exact ih0 _ _ _ _
      | exact ih1 _ _ _ _
      | exact LeO.none _
      | refine LeO.ite ?_ ?_
      | refine LeO.bind ?_ (fun _ => ?_)
theorem q08_Listing.mono : ∀ a0 a1 a2 k, LeO (q08_Listing.f k a0 a1 a2) (q08_Listing.f (k + 1) a0 a1 a2) := by
 intro a0 a1 a2 k; obtain ⟨ih0, ih1⟩ := q08_Listing.mono_l k; unfold q08_Listing.f
 repeat' first
     | (with_reducible exact ih0 _ _ _ _)
     | (with_reducible exact ih1 _ _ _ _)
     | (with_reducible exact q08_rising.mono _ _)
     | (with_reducible exact LeO.refl _)
     | (with_reducible exact LeO.none _)
     | (with_reducible refine LeO.ite ?_ ?_)
     | (with_reducible refine LeO.bind ?_ (fun _ => ?_))
     | exact ih0 _ _ _ _
     | exact ih1 _ _ _ _
     | exact LeO.none _
     | refine LeO.ite ?_ ?_
     | refine LeO.bind ?_ (fun _ => ?_)
theorem q08_Listing.calls (k : Nat) (a0_0 : Bool) (A0_1 : Option Addr) (c0_1 : Nat) (l0_1 : List ByteArray) (A0_2 : Option Addr) (c0_2 : Nat) (l0_2 : List Int) (r : Bool) (w : World) (hr0_1 : Kd.C Kd.string w A0_1 l0_1.length l0_1) (hc0_1 : l0_1.length ≤ c0_1) (hr0_2 : Kd.C (Kd.int .i64) w A0_2 l0_2.length l0_2) (hc0_2 : l0_2.length ≤ c0_2) (h : q08_Listing.f k a0_0 l0_1 l0_2 = some r) :
    Calls Tryd.prog 27 #[.agg #[.bool a0_0, .slice A0_1 l0_1.length c0_1, .slice A0_2 l0_2.length c0_2]] w fun e w' => e = .returned (.bool r) ∧ Below w.heap.size w w' := by
 have hu25 := Tryd.underlying25; have HR0_1 := aM_ hr0_1; have HC0_1 := aM_ hc0_1; clear hr0_1 hc0_1; have HR0_2 := aM_ hr0_2; have HC0_2 := aM_ hc0_2; clear hr0_2 hc0_2; have HB := aM_ (Below.refl w.heap.size w); have H : (if (l0_1.length : Int) > 256 then (q08_Listing.j0 k true a0_0 l0_1 l0_2) else ((q08_rising.f k l0_1).bind fun t265 => (if t265 = true then (q08_Listing.j0 k ((l0_2.length : Int) != (l0_1.length : Int)) a0_0 l0_1 l0_2) else (q08_Listing.j0 k true a0_0 l0_1 l0_2)))) = some r := h; clear h; have HC2 := aM_ H; clear H; (go_enter Tryd.func27, Tryd.ntmps27); (go_upto_region 1 with (first | ((with_reducible refine gate_dst (N := 1) rfl ?_); (try (refine gate_guard (by rfl) ?_; dsimp only)); refine box_event ?hg (N := 1) ?hd (cs := #[.bool a0_0, .slice A0_1 l0_1.length c0_1, .slice A0_2 l0_2.length c0_2]) (t := 25) ?hr ?_; (case hd => rfl); (case hg => rfl); (case hr => first | (go_simp; done) | (go_simp; rfl)); intro gb264 hg w3 hbox hb; have n0_ := aM_ (bT_ (bZ0_ HB.out) hb); have n1_ := aM_ (hbox); have n2_ := aM_ ((by rw [hg]; exact (bZ_ (bZ0_ HB.out)) : w.heap.size ≤ gb264)); have n3_ := aM_ ((by rw [hg]; exact (bZ_ (bZ0_ HB.out)) : w.heap.size ≤ gb264)); clear HB; have HB := n0_; have BK264 := n1_; have GW264 := n2_; have GE264 := n3_; clear n0_ n1_ n2_ n3_; clear hb hbox hg))); (try simp only [Act.put, sA_, sZ_, sS_]); (go_cut [22] (fun v22 wc => ∃ (kq : Nat) (x22_1 : Bool), v22 = .bool x22_1 ∧ Aside0 (q08_Listing.j0 kq x22_1 a0_0 l0_1 l0_2 = some r) ∧ Aside0 (kq ≤ k) ∧ Aside0 (wc.heap[gb264]? = some (.cells #[.bool a0_0, (.slice A0_1 l0_1.length c0_1), (.slice A0_2 l0_2.length c0_2)] 25 (0, 0))) ∧ Aside0 (Below w.heap.size w wc)))
 case first =>
  have H := HC2.out; clear HC2; (by_cases c4 : (l0_1.length : Int) > 256)
  · rw [if_pos c4] at H
    have c4b0 : decide (256 < (l0_1.length : Int)) = true := dT_ c4; have c4b1 : decide (256 < l0_1.length) = true := dT_ (by omega); clear c4; (first | rw [c4b0] | (simp only [i64_w, i32_w]; rw [c4b0]) | skip); have H' := aM_ H; clear H; obtain ⟨hcz5_0, hcz5_1, hcz5_2, hfz5_0, hfz5_1, hfz5_2⟩ := k6_ BK264.out; go_wp2; (go_meet)
    case rel => exact ⟨_, (true), (by first | rfl | (simp; done) | (simp [*]; done)), H', ⟨by first | omega | exact Nat.le_refl _⟩, ⟨kZ_ BK264.out⟩, ⟨bZ1_ HB.out GE264.out⟩⟩
  · rw [if_neg c4] at H
    have c4b0 : decide (256 < (l0_1.length : Int)) = false := decide_eq_false c4; have c4b1 : decide (256 < l0_1.length) = false := decide_eq_false (by omega); clear c4; (first | rw [c4b0] | (simp only [i64_w, i32_w]; rw [c4b0]) | skip); replace H := Option.bind_eq_some_iff.mp H; obtain ⟨t265, A60, H⟩ := H; replace H : (if t265 = true then (q08_Listing.j0 k ((l0_2.length : Int) != (l0_1.length : Int)) a0_0 l0_1 l0_2) else (q08_Listing.j0 k true a0_0 l0_1 l0_2)) = some r := H; have A6 := aM_ A60; clear A60; (by_cases c7 : t265 = true)
    · subst c7
      (have H1 : (q08_Listing.j0 k ((l0_2.length : Int) != (l0_1.length : Int)) a0_0 l0_1 l0_2) = some r := by rw [if_pos rfl] at H; exact H); clear H; have H := H1; clear H1; have H' := aM_ H; clear H; obtain ⟨hcz8_0, hcz8_1, hcz8_2, hfz8_0, hfz8_1, hfz8_2⟩ := k6_ BK264.out; (go_wp2_with (first | (go_at_call 39; (with_reducible refine (q08_rising.calls k _ _ l0_1 true _ ?side1 ?side2 A6.out).mono ?_); (case side1 => exact cZ_ (Kd.C_below HR0_1.out HB.out)); (case side2 => exact HC0_1.out); rintro e w' ⟨rfl, ⟨nd, rfl⟩⟩))); (go_meet)
      case rel => exact ⟨_, (((l0_2.length : Int) != (l0_1.length : Int))), (by first | rfl | (simp; done) | (simp [*]; done)), H', ⟨by first | omega | exact Nat.le_refl _⟩, ⟨kZ_ BK264.out⟩, ⟨bZ1_ HB.out GE264.out⟩⟩
    · replace c7 := Bool.eq_false_iff.mpr c7
      subst c7; (have H1 : (q08_Listing.j0 k true a0_0 l0_1 l0_2) = some r := by rw [if_neg (show ¬ (false = true) by decide)] at H; exact H); clear H; have H := H1; clear H1; have H' := aM_ H; clear H; obtain ⟨hcz9_0, hcz9_1, hcz9_2, hfz9_0, hfz9_1, hfz9_2⟩ := k6_ BK264.out; (go_wp2_with (first | (go_at_call 39; (with_reducible refine (q08_rising.calls k _ _ l0_1 false _ ?side1 ?side2 A6.out).mono ?_); (case side1 => exact cZ_ (Kd.C_below HR0_1.out HB.out)); (case side2 => exact HC0_1.out); rintro e w' ⟨rfl, ⟨nd, rfl⟩⟩))); (go_meet)
      case rel => exact ⟨_, (true), (by first | rfl | (simp; done) | (simp [*]; done)), H', ⟨by first | omega | exact Nat.le_refl _⟩, ⟨kZ_ BK264.out⟩, ⟨bZ1_ HB.out GE264.out⟩⟩
 case rest =>
  clear HC2; (try clear c2); (try clear p2); (try clear c4); (try clear c4b0); (try clear c4b1); (try clear c7); (try clear hcz5_0); (try clear hcz5_1); (try clear hcz5_2); (try clear hcz8_0); (try clear hcz8_1); (try clear hcz8_2); (try clear hcz9_0); (try clear hcz9_1); (try clear hcz9_2); (try clear hfz5_0); (try clear hfz5_1); (try clear hfz5_2); (try clear hfz8_0); (try clear hfz8_1); (try clear hfz8_2); (try clear hfz9_0); (try clear hfz9_1); (try clear hfz9_2); obtain ⟨kq, x22_1, rfl, HA, HJ1, BK264, HB⟩ := hcut
  cases kq with
  | zero => exact absurd HA.out (by simp [q08_Listing.j0])
  | succ kj1 =>
   have H := HA.out; clear HA; simp only [q08_Listing.j0] at H; (by_cases c10 : x22_1 = true); (· subst c10; (have H1 : (some false) = some r := by rw [if_pos rfl] at H; exact H); clear H; have H := H1; clear H1; obtain rfl := oJ_ H; simp only [oI_, pI_] at H; obtain ⟨rfl⟩ := H; go_wp2; go_ret; (exact ⟨by first | rfl | (simp [errW_none, errW_some] <;> rfl) | (simp [*, errW_none, errW_some] <;> rfl), by exact bZ1_ HB.out GE264.out⟩))
   · replace c10 := Bool.eq_false_iff.mpr c10
     subst c10; (have H1 : (q08_Listing.l0 kj1 0 a0_0 l0_1 l0_2) = some r := by rw [if_neg (show ¬ (false = true) by decide)] at H; exact H); clear H; have H := H1; clear H1; have H' := aM_ H; clear H; go_wp2; (go_loopg [3] kj1 (fun kq v3 w' => ∃ (x3_2 : Int), v3 = .int .i64 x3_2 ∧ Aside0 (q08_Listing.l0 kq x3_2 a0_0 l0_1 l0_2 = some r) ∧ Aside0 (kq ≤ kj1) ∧ Aside0 (w'.heap[gb264]? = some (.cells #[.bool a0_0, (.slice A0_1 l0_1.length c0_1), (.slice A0_2 l0_2.length c0_2)] 25 (0, 0))) ∧ Aside0 (Below w.heap.size w w')))
     case atStart => exact ⟨(0), (by first | rfl | (simp; done) | (simp [*]; done)), H', ⟨Nat.le_refl _⟩, ⟨kZ_ BK264.out⟩, ⟨bZ1_ HB.out GE264.out⟩⟩
     case round =>
      clear H'; (try clear c1); (try clear c2); (try clear p2); (try clear c4); (try clear c4b0); (try clear c4b1); (try clear c7); (try clear c10); (try clear hcz5_0); (try clear hcz5_1); (try clear hcz5_2); (try clear hcz8_0); (try clear hcz8_1); (try clear hcz8_2); (try clear hcz9_0); (try clear hcz9_1); (try clear hcz9_2); (try clear hfz5_0); (try clear hfz5_1); (try clear hfz5_2); (try clear hfz8_0); (try clear hfz8_1); (try clear hfz8_2); (try clear hfz9_0); (try clear hfz9_1); (try clear hfz9_2); (try clear p2); obtain ⟨x3_2, rfl, HA, HK2, BK264, HB⟩ := hrel
      cases gk with
      | zero => exact absurd HA.out (by simp [q08_Listing.l0])
      | succ k2 =>
       have H := HA.out; clear HA; simp only [q08_Listing.l0] at H; (by_cases c11 : x3_2 < (l0_2.length : Int))
       · rw [if_pos c11] at H
         have c11b0 : decide (x3_2 < (l0_2.length : Int)) = true := dT_ c11; clear c11; (by_cases c12 : 0 ≤ x3_2)
         · rw [if_pos c12] at H
           have c12b0 : decide (0 ≤ x3_2) = true := dT_ c12; clear c12; replace H := Option.bind_eq_some_iff.mp H; obtain ⟨t267, A130, H⟩ := H; replace H : (if t267 = true then (if a0_0 = true then (if (rd l0_2 x3_2) = 0 then (some false) else (q08_Listing.l0 k2 (wrap64 (x3_2 + 1)) a0_0 l0_1 l0_2)) else (q08_Listing.l0 k2 (wrap64 (x3_2 + 1)) a0_0 l0_1 l0_2)) else (some false)) = some r := H; have A13 := aM_ A130; clear A130; (by_cases c14 : t267 = true)
           · subst c14
             (have H1 : (if a0_0 = true then (if (rd l0_2 x3_2) = 0 then (some false) else (q08_Listing.l0 k2 (wrap64 (x3_2 + 1)) a0_0 l0_1 l0_2)) else (q08_Listing.l0 k2 (wrap64 (x3_2 + 1)) a0_0 l0_1 l0_2)) = some r := by rw [if_pos rfl] at H; exact H); clear H; have H := H1; clear H1; (by_cases c15 : a0_0 = true)
             · subst c15
               (have H1 : (if (rd l0_2 x3_2) = 0 then (some false) else (q08_Listing.l0 k2 (wrap64 (x3_2 + 1)) true l0_1 l0_2)) = some r := by rw [if_pos rfl] at H; exact H); clear H; have H := H1; clear H1; (by_cases c16 : (rd l0_2 x3_2) = 0); (· rw [if_pos c16] at H; have c16b0 : ((rd l0_2 x3_2) == 0) = true := beq_iff_eq.mpr c16; have c16b1 : ((rd l0_2 x3_2) != 0) = false := bne_eq_false_iff_eq.mpr c16; clear c16; obtain rfl := oJ_ H; simp only [oI_, pI_] at H; obtain ⟨rfl⟩ := H; obtain ⟨hcz17_0, hcz17_1, hcz17_2, hfz17_0, hfz17_1, hfz17_2⟩ := k6_ BK264.out; have p266 : 0 ≤ (x3_2 : Int) := oD_ (by assumption); have q266 : x3_2 < (l0_2.length : Int) := oD_ (by assumption); obtain ⟨ad266, e266, hx266_0⟩ := Kd.at_int HR0_2.out x3_2 p266 q266; (cases e266); replace hx266_0 := (HB.out.cell (lC_ w _ hx266_0)).trans hx266_0; replace p266 := eq_true p266; replace q266 := eq_true q266; (go_wp2_with (first | ((with_reducible refine gate_callee (f := 40) rfl ?_); refine goesL_ (some 35) rfl rfl Tryd.func40 (by kernel_rfl) rfl #[.int .i64 (rd l0_2 x3_2), .int .i64 0, .int .i64 1024] rfl (by (try simp only [mA_, mC_, mN_]); first | done | rfl | (simp only [lD_, lT_]; rfl)) ?_; (with_reducible refine (q08_within.calls (rd l0_2 x3_2) 0 1024 true _ A13.out).mono ?_); rintro e w' ⟨rfl, ⟨nd, rfl⟩⟩; refine ⟨_, rfl, ?_⟩; have p268 : 0 ≤ (x3_2 : Int) := oD_ (by assumption); have q268 : x3_2 < (l0_2.length : Int) := oD_ (by assumption); obtain ⟨ad268, e268, hx268_0⟩ := Kd.at_int HR0_2.out x3_2 p268 q268; obtain rfl : ad266 = ad268 := (by injection e268); replace hx268_0 := (HB.out.cell (lC_ w _ hx268_0)).trans hx268_0; replace p268 := eq_true p268; replace q268 := eq_true q268))); go_ret; (exact ⟨by first | rfl | (simp [errW_none, errW_some] <;> rfl) | (simp [*, errW_none, errW_some] <;> rfl), by exact bZ1_ HB.out GE264.out⟩))
               · rw [if_neg c16] at H
                 have c16b0 : ((rd l0_2 x3_2) == 0) = false := beq_eq_false_iff_ne.mpr c16; have c16b1 : ((rd l0_2 x3_2) != 0) = true := bne_iff_ne.mpr c16; have H' := aM_ H; clear H; obtain ⟨hcz18_0, hcz18_1, hcz18_2, hfz18_0, hfz18_1, hfz18_2⟩ := k6_ BK264.out; have p266 : 0 ≤ (x3_2 : Int) := oD_ (by assumption); have q266 : x3_2 < (l0_2.length : Int) := oD_ (by assumption); obtain ⟨ad266, e266, hx266_0⟩ := Kd.at_int HR0_2.out x3_2 p266 q266; (cases e266); replace hx266_0 := (HB.out.cell (lC_ w _ hx266_0)).trans hx266_0; replace p266 := eq_true p266; replace q266 := eq_true q266; (go_wp2_with (first | ((with_reducible refine gate_callee (f := 40) rfl ?_); refine goesL_ (some 35) rfl rfl Tryd.func40 (by kernel_rfl) rfl #[.int .i64 (rd l0_2 x3_2), .int .i64 0, .int .i64 1024] rfl (by (try simp only [mA_, mC_, mN_]); first | done | rfl | (simp only [lD_, lT_]; rfl)) ?_; (with_reducible refine (q08_within.calls (rd l0_2 x3_2) 0 1024 true _ A13.out).mono ?_); rintro e w' ⟨rfl, ⟨nd, rfl⟩⟩; refine ⟨_, rfl, ?_⟩; have p268 : 0 ≤ (x3_2 : Int) := oD_ (by assumption); have q268 : x3_2 < (l0_2.length : Int) := oD_ (by assumption); obtain ⟨ad268, e268, hx268_0⟩ := Kd.at_int HR0_2.out x3_2 p268 q268; obtain rfl : ad266 = ad268 := (by injection e268); replace hx268_0 := (HB.out.cell (lC_ w _ hx268_0)).trans hx268_0; replace p268 := eq_true p268; replace q268 := eq_true q268))); (go_roundg k2)
                 case measure => have := HJ1.out; have := HK2.out; omega
                 case rel => exact ⟨(wrap64 (x3_2 + 1)), (by first | rfl | (simp; done) | (simp [*]; done)), H', ⟨by have := HJ1.out; have := HK2.out; omega⟩, ⟨kZ_ BK264.out⟩, ⟨bZ1_ HB.out GE264.out⟩⟩
             · replace c15 := Bool.eq_false_iff.mpr c15
               subst c15; (have H1 : (q08_Listing.l0 k2 (wrap64 (x3_2 + 1)) false l0_1 l0_2) = some r := by rw [if_neg (show ¬ (false = true) by decide)] at H; exact H); clear H; have H := H1; clear H1; have H' := aM_ H; clear H; obtain ⟨hcz19_0, hcz19_1, hcz19_2, hfz19_0, hfz19_1, hfz19_2⟩ := k6_ BK264.out; have p266 : 0 ≤ (x3_2 : Int) := oD_ (by assumption); have q266 : x3_2 < (l0_2.length : Int) := oD_ (by assumption); obtain ⟨ad266, e266, hx266_0⟩ := Kd.at_int HR0_2.out x3_2 p266 q266; (cases e266); replace hx266_0 := (HB.out.cell (lC_ w _ hx266_0)).trans hx266_0; replace p266 := eq_true p266; replace q266 := eq_true q266; (go_wp2_with (first | ((with_reducible refine gate_callee (f := 40) rfl ?_); refine goesL_ (some 35) rfl rfl Tryd.func40 (by kernel_rfl) rfl #[.int .i64 (rd l0_2 x3_2), .int .i64 0, .int .i64 1024] rfl (by (try simp only [mA_, mC_, mN_]); first | done | rfl | (simp only [lD_, lT_]; rfl)) ?_; (with_reducible refine (q08_within.calls (rd l0_2 x3_2) 0 1024 true _ A13.out).mono ?_); rintro e w' ⟨rfl, ⟨nd, rfl⟩⟩; refine ⟨_, rfl, ?_⟩))); (go_roundg k2)
               case measure => have := HJ1.out; have := HK2.out; omega
               case rel => exact ⟨(wrap64 (x3_2 + 1)), (by first | rfl | (simp; done) | (simp [*]; done)), H', ⟨by have := HJ1.out; have := HK2.out; omega⟩, ⟨kZ_ BK264.out⟩, ⟨bZ1_ HB.out GE264.out⟩⟩
           (· replace c14 := Bool.eq_false_iff.mpr c14; subst c14; (have H1 : (some false) = some r := by rw [if_neg (show ¬ (false = true) by decide)] at H; exact H); clear H; have H := H1; clear H1; obtain rfl := oJ_ H; simp only [oI_, pI_] at H; obtain ⟨rfl⟩ := H; obtain ⟨hcz20_0, hcz20_1, hcz20_2, hfz20_0, hfz20_1, hfz20_2⟩ := k6_ BK264.out; have p266 : 0 ≤ (x3_2 : Int) := oD_ (by assumption); have q266 : x3_2 < (l0_2.length : Int) := oD_ (by assumption); obtain ⟨ad266, e266, hx266_0⟩ := Kd.at_int HR0_2.out x3_2 p266 q266; (cases e266); replace hx266_0 := (HB.out.cell (lC_ w _ hx266_0)).trans hx266_0; replace p266 := eq_true p266; replace q266 := eq_true q266; (go_wp2_with (first | ((with_reducible refine gate_callee (f := 40) rfl ?_); refine goesL_ (some 35) rfl rfl Tryd.func40 (by kernel_rfl) rfl #[.int .i64 (rd l0_2 x3_2), .int .i64 0, .int .i64 1024] rfl (by (try simp only [mA_, mC_, mN_]); first | done | rfl | (simp only [lD_, lT_]; rfl)) ?_; (with_reducible refine (q08_within.calls (rd l0_2 x3_2) 0 1024 false _ A13.out).mono ?_); rintro e w' ⟨rfl, ⟨nd, rfl⟩⟩; refine ⟨_, rfl, ?_⟩))); go_ret; (exact ⟨by first | rfl | (simp [errW_none, errW_some] <;> rfl) | (simp [*, errW_none, errW_some] <;> rfl), by exact bZ1_ HB.out GE264.out⟩))
         (· rw [if_neg c12] at H; exact absurd H (by simp))
       (· rw [if_neg c11] at H; have c11b0 : decide (x3_2 < (l0_2.length : Int)) = false := decide_eq_false c11; clear c11; obtain rfl := oJ_ H; simp only [oI_, pI_] at H; obtain ⟨rfl⟩ := H; obtain ⟨hcz21_0, hcz21_1, hcz21_2, hfz21_0, hfz21_1, hfz21_2⟩ := k6_ BK264.out; go_wp2; go_ret; (exact ⟨by first | rfl | (simp [errW_none, errW_some] <;> rfl) | (simp [*, errW_none, errW_some] <;> rfl), by exact bZ1_ HB.out GE264.out⟩))
def q21_whole.f (k : Nat) (l0 : List ByteArray) (l1 : List Int) : Option (Bool) := (q08_Listing.f k true l0 l1).bind fun t269 => (some t269)
theorem q21_whole.mono : ∀ a0 a1 k, LeO (q21_whole.f k a0 a1) (q21_whole.f (k + 1) a0 a1) := by
 intro a0 a1 k; unfold q21_whole.f
 repeat' first
     | (with_reducible exact q08_Listing.mono _ _ _ _)
     | (with_reducible exact LeO.refl _)
     | (with_reducible exact LeO.none _)
     | (with_reducible refine LeO.ite ?_ ?_)
     | (with_reducible refine LeO.bind ?_ (fun _ => ?_))
     | exact LeO.none _
     | refine LeO.ite ?_ ?_
     | refine LeO.bind ?_ (fun _ => ?_)
theorem q21_whole.calls (k : Nat) (A0 : Option Addr) (c0 : Nat) (l0 : List ByteArray) (A1 : Option Addr) (c1 : Nat) (l1 : List Int) (r : Bool) (w : World) (hr0 : Kd.C Kd.string w A0 l0.length l0) (hc0 : l0.length ≤ c0) (hr1 : Kd.C (Kd.int .i64) w A1 l1.length l1) (hc1 : l1.length ≤ c1) (h : q21_whole.f k l0 l1 = some r) :
    Calls Tryd.prog 26 #[.slice A0 l0.length c0, .slice A1 l1.length c1] w fun e w' => e = .returned (.bool r) ∧ Below w.heap.size w w' := by
 have hu25 := Tryd.underlying25; have HR0 := aM_ hr0; have HC0 := aM_ hc0; clear hr0 hc0; have HR1 := aM_ hr1; have HC1 := aM_ hc1; clear hr1 hc1; have HB := aM_ (Below.refl w.heap.size w); have H : ((q08_Listing.f k true l0 l1).bind fun t269 => (some t269)) = some r := h; clear h; replace H := Option.bind_eq_some_iff.mp H; obtain ⟨t269, A30, H⟩ := H; replace H : (some t269) = some r := H; have A3 := aM_ A30; clear A30; obtain rfl := oJ_ H; simp only [oI_, pI_] at H; obtain ⟨rfl⟩ := H; (go_enter Tryd.func26, Tryd.ntmps26)
 go_wp2_with (first | ((with_reducible refine gate_callee (f := 27) rfl ?_); refine goesL_ (some 8) rfl rfl Tryd.func27 (by kernel_rfl) rfl #[.agg #[.bool true, .slice A0 l0.length c0, .slice A1 l1.length c1]] rfl (by (try simp only [mA_, mC_, mN_]); first | done | rfl | (simp only [lD_, lT_]; rfl)) ?_; (with_reducible refine (q08_Listing.calls k true _ _ l0 _ _ l1 t269 _ ?side1 ?side2 ?side3 ?side4 A3.out).mono ?_); (case side1 => exact cZ_ HR0.out); (case side2 => exact HC0.out); (case side3 => exact cZ_ HR1.out); (case side4 => exact HC1.out); rintro e w4 ⟨rfl, hb⟩; refine ⟨_, rfl, ?_⟩; have n0_ := aM_ (bT_ (bZ0_ HB.out) hb); clear HB; have HB := n0_; clear n0_; (try clear hb); (try clear hb2); (try clear hk); (try clear hi)))
 go_ret; (exact ⟨by first | rfl | (simp [errW_none, errW_some] <;> rfl) | (simp [*, errW_none, errW_some] <;> rfl), by exact bZ0_ HB.out⟩)
end Go.Proofs.YtigbmfogfgbmfaaDoor.Fn
