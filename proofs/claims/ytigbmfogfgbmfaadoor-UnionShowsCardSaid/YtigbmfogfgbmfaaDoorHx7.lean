import Derived.Test.YtigbmfogfgbmfaaDoorHx0
namespace Go.Proofs.YtigbmfogfgbmfaaDoor.Fn
set_option maxHeartbeats 8000000
set_option maxRecDepth 100000
open Go.RowKit Go.Proofs.YtigbmfogfgbmfaaDoorW.PrintWords Go.Proofs.YtigbmfogfgbmfaaDoorW.PrintLast Go.Proofs.YtigbmfogfgbmfaaDoorW.PrintMore
attribute [local go_sem] max2_int min2_int max_two min_two max_three min_three max_four min_four
set_option linter.unusedVariables false
set_option linter.unusedSimpArgs false
mutual
def q01_Rune.j2 : Nat → ByteArray → Int → Int → Int → Option (Int × Int × Bool)
  | 0, _, _, _, _ => none
  | k + 1, x0, x6, x7, x8 => if (x0.size : Int) < x6 then (some (65533, 1, false)) else (q01_Rune.l0 k x0 x6 x7 x8 1)
def q01_Rune.l0 : Nat → ByteArray → Int → Int → Int → Int → Option (Int × Int × Bool)
  | 0, _, _, _, _, _ => none
  | k + 1, x0, x6, x7, x8, x9 => if x9 < x6 then (if 0 ≤ x9 then (if x9 < (x0.size : Int) then (if (wrap64 (bt x0 x9)) < 128 then (some (65533, 1, false)) else (if (wrap64 (bt x0 x9)) ≥ 192 then (some (65533, 1, false)) else (q01_Rune.l0 k x0 x6 (wrap64 ((wrap64 ((wrap64 (x7 * 64)) + (wrap64 (bt x0 x9)))) - 128)) x8 (wrap64 (x9 + 1))))) else (none)) else (none)) else (if x7 < x8 then (some (65533, 1, false)) else (if x7 > 1114111 then (some (65533, 1, false)) else (if x7 ≥ 55296 then (if x7 < 57344 then (some (65533, 1, false)) else (some (x7, x6, true))) else (some (x7, x6, true)))))
def q01_Rune.j0 : Nat → ByteArray → Int → Bool → Option (Int × Int × Bool)
  | 0, _, _, _ => none
  | k + 1, x0, x5, x18 => if x18 = true then (q01_Rune.j2 k x0 2 (wrap64 (x5 - 192)) 128) else (if x5 ≥ 224 then (q01_Rune.j1 k x0 x5 (decide (x5 < 240))) else (q01_Rune.j1 k x0 x5 false))
def q01_Rune.j1 : Nat → ByteArray → Int → Bool → Option (Int × Int × Bool)
  | 0, _, _, _ => none
  | k + 1, x0, x5, x27 => if x27 = true then (q01_Rune.j2 k x0 3 (wrap64 (x5 - 224)) 2048) else (if x5 ≥ 240 then (if x5 < 245 then (q01_Rune.j2 k x0 4 (wrap64 (x5 - 240)) 65536) else (some (65533, 1, false))) else (some (65533, 1, false)))
end
def q01_Rune.f (k : Nat) (a0 : ByteArray) : Option (Int × Int × Bool) := if 0 < (a0.size : Int) then (if (wrap64 (bt a0 0)) < 128 then (some (wrap64 (bt a0 0), 1, true)) else (if (wrap64 (bt a0 0)) ≥ 194 then (q01_Rune.j0 k a0 (wrap64 (bt a0 0)) (decide ((wrap64 (bt a0 0)) < 224))) else (q01_Rune.j0 k a0 (wrap64 (bt a0 0)) false))) else (none)
theorem q01_Rune.mono_l : ∀ k, (∀ y0 y1 y2 y3, LeO (q01_Rune.j2 k y0 y1 y2 y3) (q01_Rune.j2 (k + 1) y0 y1 y2 y3)) ∧ (∀ y0 y1 y2 y3 y4, LeO (q01_Rune.l0 k y0 y1 y2 y3 y4) (q01_Rune.l0 (k + 1) y0 y1 y2 y3 y4)) ∧ (∀ y0 y1 y2, LeO (q01_Rune.j0 k y0 y1 y2) (q01_Rune.j0 (k + 1) y0 y1 y2)) ∧ (∀ y0 y1 y2, LeO (q01_Rune.j1 k y0 y1 y2) (q01_Rune.j1 (k + 1) y0 y1 y2))
  | 0 => ⟨fun _ _ _ _ r h => by simp [q01_Rune.j2] at h, fun _ _ _ _ _ r h => by simp [q01_Rune.l0] at h, fun _ _ _ r h => by simp [q01_Rune.j0] at h, fun _ _ _ r h => by simp [q01_Rune.j1] at h⟩
  | k + 1 => by
    obtain ⟨ih0, ih1, ih2, ih3⟩ := q01_Rune.mono_l k
    refine ⟨?_, ?_, ?_, ?_⟩
    · intro y0 y1 y2 y3
      unfold q01_Rune.j2
      repeat' first
      | (with_reducible exact ih0 _ _ _ _)
      | (with_reducible exact ih1 _ _ _ _ _)
      | (with_reducible exact ih2 _ _ _)
      | (with_reducible exact ih3 _ _ _)
      | (with_reducible exact LeO.refl _)
      | (with_reducible exact LeO.none _)
      | (with_reducible refine LeO.ite ?_ ?_)
      | (with_reducible refine LeO.bind ?_ (fun _ => ?_))
      | exact ih0 _ _ _ _
      | exact ih1 _ _ _ _ _
      | exact ih2 _ _ _
      | exact ih3 _ _ _
      | exact LeO.none _
      | refine LeO.ite ?_ ?_
      | refine LeO.bind ?_ (fun _ => ?_)
    · intro y0 y1 y2 y3 y4
      unfold q01_Rune.l0
      repeat' first
      | (with_reducible exact ih0 _ _ _ _)
      | (with_reducible exact ih1 _ _ _ _ _)
      | (with_reducible exact ih2 _ _ _)
      | (with_reducible exact ih3 _ _ _)
      | (with_reducible exact LeO.refl _)
      | (with_reducible exact LeO.none _)
      | (with_reducible refine LeO.ite ?_ ?_)
      | (with_reducible refine LeO.bind ?_ (fun _ => ?_))
      | exact ih0 _ _ _ _
      | exact ih1 _ _ _ _ _
      | exact ih2 _ _ _
      | exact ih3 _ _ _
      | exact LeO.none _
      | refine LeO.ite ?_ ?_
      | refine LeO.bind ?_ (fun _ => ?_)
    · intro y0 y1 y2
      unfold q01_Rune.j0
      repeat' first
      | (with_reducible exact ih0 _ _ _ _)
      | (with_reducible exact ih1 _ _ _ _ _)
      | (with_reducible exact ih2 _ _ _)
      | (with_reducible exact ih3 _ _ _)
      | (with_reducible exact LeO.refl _)
      | (with_reducible exact LeO.none _)
      | (with_reducible refine LeO.ite ?_ ?_)
      | (with_reducible refine LeO.bind ?_ (fun _ => ?_))
      | exact ih0 _ _ _ _
      | exact ih1 _ _ _ _ _
      | exact ih2 _ _ _
      | exact ih3 _ _ _
      | exact LeO.none _
      | refine LeO.ite ?_ ?_
      | refine LeO.bind ?_ (fun _ => ?_)
    · intro y0 y1 y2
      unfold q01_Rune.j1
      repeat' first
      | (with_reducible exact ih0 _ _ _ _)
      | (with_reducible exact ih1 _ _ _ _ _)
      | (with_reducible exact ih2 _ _ _)
      | (with_reducible exact ih3 _ _ _)
      | (with_reducible exact LeO.refl _)
      | (with_reducible exact LeO.none _)
      | (with_reducible refine LeO.ite ?_ ?_)
      | (with_reducible refine LeO.bind ?_ (fun _ => ?_))
      | exact ih0 _ _ _ _
      | exact ih1 _ _ _ _ _
      | exact ih2 _ _ _
      | exact ih3 _ _ _
      | exact LeO.none _
      | refine LeO.ite ?_ ?_
      | refine LeO.bind ?_ (fun _ => ?_)
theorem q01_Rune.mono : ∀ a0 k, LeO (q01_Rune.f k a0) (q01_Rune.f (k + 1) a0) := by
 intro a0 k; obtain ⟨ih0, ih1, ih2, ih3⟩ := q01_Rune.mono_l k; unfold q01_Rune.f
 repeat' first
     | (with_reducible exact ih0 _ _ _ _)
     | (with_reducible exact ih1 _ _ _ _ _)
     | (with_reducible exact ih2 _ _ _)
     | (with_reducible exact ih3 _ _ _)
     | (with_reducible exact LeO.refl _)
     | (with_reducible exact LeO.none _)
     | (with_reducible refine LeO.ite ?_ ?_)
     | (with_reducible refine LeO.bind ?_ (fun _ => ?_))
     | exact ih0 _ _ _ _
     | exact ih1 _ _ _ _ _
     | exact ih2 _ _ _
     | exact ih3 _ _ _
     | exact LeO.none _
     | refine LeO.ite ?_ ?_
     | refine LeO.bind ?_ (fun _ => ?_)
theorem q01_Rune.calls (k : Nat) (a0 : ByteArray) (r1 : Int) (r2 : Int) (r3 : Bool) (w : World) (h : q01_Rune.f k a0 = some (r1, r2, r3)) :
    Calls Tryd.prog 58 #[.string a0] w fun e w' => e = .returned (.tuple #[.int .i64 r1, .int .i64 r2, .bool r3]) ∧ Drawn0 w w' := by
 have H : (if 0 < (a0.size : Int) then (if (wrap64 (bt a0 0)) < 128 then (some (wrap64 (bt a0 0), 1, true)) else (if (wrap64 (bt a0 0)) ≥ 194 then (q01_Rune.j0 k a0 (wrap64 (bt a0 0)) (decide ((wrap64 (bt a0 0)) < 224))) else (q01_Rune.j0 k a0 (wrap64 (bt a0 0)) false))) else (none)) = some (r1, r2, r3) := h; clear h; (by_cases c2 : 0 < (a0.size : Int))
 · rw [if_pos c2] at H
   have c2b0 : decide (0 < (a0.size : Int)) = true := dT_ c2; have c2b1 : decide (0 < a0.size) = true := dT_ (by omega); clear c2; have HC4 := aM_ H; clear H; have p3 : 0 ≤ (0 : Int) := (by omega); have q3 : 0 < a0.size := (by have : (0 : Int) < (a0.size : Int) := oD_ (by assumption); omega); have hx3 : ∀ h : 0 < a0.size, ((a0[0]'h).toNat : Int) = bt a0 0 := bt_at a0 0; clear p3; have qi3 : (0 < (a0.size : Int)) = True := eq_true (oD_ (by assumption)); replace q3 := eq_true q3; (go_enter Tryd.func58, Tryd.ntmps58); (go_upto_block 0 with (fail)); (go_cut [6, 7, 8] (fun v6 v7 v8 wc => ∃ (kq : Nat) (x6_3 : Int) (x7_3 : Int) (x8_3 : Int), v6 = .int .i64 x6_3 ∧ v7 = .int .i64 x7_3 ∧ v8 = .int .i64 x8_3 ∧ Aside0 (q01_Rune.j2 kq a0 x6_3 x7_3 x8_3 = some (r1, r2, r3)) ∧ Aside0 (kq ≤ k) ∧ Drawn0 w wc))
   case first =>
    have H := HC4.out; clear HC4; (by_cases c5 : (wrap64 (bt a0 0)) < 128); (· rw [if_pos c5] at H; have c5b0 : decide ((wrap64 (bt a0 0)) < 128) = true := dT_ c5; clear c5; (first | rw [c5b0] | (simp only [i64_w, i32_w]; rw [c5b0]) | skip); simp only [oI_, pI_] at H; obtain ⟨rfl, rfl, rfl⟩ := H; go_wp2; (go_ret3); exact ⟨by first | rfl | (simp; done) | (simp [*]; done), by repeat (first | exact Drawn0.refl _ | apply Drawn0.step)⟩)
    · rw [if_neg c5] at H
      have c5b0 : decide ((wrap64 (bt a0 0)) < 128) = false := decide_eq_false c5; clear c5; (first | rw [c5b0] | (simp only [i64_w, i32_w]; rw [c5b0]) | skip); have HC6 := aM_ H; clear H; (go_upto_region 6 with (fail)); (go_cut [18] (fun v18 wc => ∃ (kq : Nat) (x18_5 : Bool), v18 = .bool x18_5 ∧ Aside0 (q01_Rune.j0 kq a0 (wrap64 (bt a0 0)) x18_5 = some (r1, r2, r3)) ∧ Aside0 (kq ≤ k) ∧ Drawn0 w wc))
      case first =>
       have H := HC6.out; clear HC6; (by_cases c7 : (wrap64 (bt a0 0)) ≥ 194)
       · rw [if_pos c7] at H
         have c7b0 : decide (194 ≤ (wrap64 (bt a0 0))) = true := dT_ c7; clear c7; (first | rw [c7b0] | (simp only [i64_w, i32_w]; rw [c7b0]) | skip); have H' := aM_ H; clear H; go_wp2; (go_meet)
         case rel => exact ⟨_, (decide ((wrap64 (bt a0 0)) < 224)), (by first | rfl | (simp; done) | (simp [*]; done)), H', ⟨by first | omega | exact Nat.le_refl _⟩, by repeat (first | exact Drawn0.refl _ | apply Drawn0.step)⟩
       · rw [if_neg c7] at H
         have c7b0 : decide (194 ≤ (wrap64 (bt a0 0))) = false := decide_eq_false c7; clear c7; (first | rw [c7b0] | (simp only [i64_w, i32_w]; rw [c7b0]) | skip); have H' := aM_ H; clear H; go_wp2; (go_meet)
         case rel => exact ⟨_, (false), (by first | rfl | (simp; done) | (simp [*]; done)), H', ⟨by first | omega | exact Nat.le_refl _⟩, by repeat (first | exact Drawn0.refl _ | apply Drawn0.step)⟩
      case rest =>
       clear HC6; (try clear c2); (try clear c2b0); (try clear c2b1); (try clear p2); (try clear p3); (try clear q3); (try clear hx3); (try clear qi3); (try clear c5); (try clear c5b0); (try clear p6); (try clear c7); (try clear c7b0); (try clear p3); (try clear q3); obtain ⟨kq, x18_5, rfl, HA, HJ5, ⟨mc5, rfl⟩⟩ := hcut
       cases kq with
       | zero => exact absurd HA.out (by simp [q01_Rune.j0])
       | succ kj5 =>
        have H := HA.out; clear HA; simp only [q01_Rune.j0] at H; (by_cases c8 : x18_5 = true)
        · subst c8
          (have H1 : (q01_Rune.j2 kj5 a0 2 (wrap64 ((wrap64 (bt a0 0)) - 192)) 128) = some (r1, r2, r3) := by rw [if_pos rfl] at H; exact H); clear H; have H := H1; clear H1; have H' := aM_ H; clear H; go_wp2; (go_meet)
          case rel => exact ⟨_, (2), (wrap64 ((wrap64 (bt a0 0)) - 192)), (128), (by first | rfl | (simp; done) | (simp [*]; done)), (by first | rfl | (simp; done) | (simp [*]; done)), (by first | rfl | (simp; done) | (simp [*]; done)), H', ⟨by have := HJ5.out; first | omega | exact Nat.le_refl _⟩, by repeat (first | exact Drawn0.refl _ | apply Drawn0.step)⟩
        · replace c8 := Bool.eq_false_iff.mpr c8
          subst c8; (have H1 : (if (wrap64 (bt a0 0)) ≥ 224 then (q01_Rune.j1 kj5 a0 (wrap64 (bt a0 0)) (decide ((wrap64 (bt a0 0)) < 240))) else (q01_Rune.j1 kj5 a0 (wrap64 (bt a0 0)) false)) = some (r1, r2, r3) := by rw [if_neg (show ¬ (false = true) by decide)] at H; exact H); clear H; have H := H1; clear H1; have HC9 := aM_ H; clear H; (go_upto_region 8 with (fail)); (go_cut [27] (fun v27 wc => ∃ (kq : Nat) (x27_8 : Bool), v27 = .bool x27_8 ∧ Aside0 (q01_Rune.j1 kq a0 (wrap64 (bt a0 0)) x27_8 = some (r1, r2, r3)) ∧ Aside0 (kq ≤ kj5) ∧ Drawn0 w wc))
          case first =>
           have H := HC9.out; clear HC9; (by_cases c10 : (wrap64 (bt a0 0)) ≥ 224)
           · rw [if_pos c10] at H
             have c10b0 : decide (224 ≤ (wrap64 (bt a0 0))) = true := dT_ c10; clear c10; (first | rw [c10b0] | (simp only [i64_w, i32_w]; rw [c10b0]) | skip); have H' := aM_ H; clear H; go_wp2; (go_meet)
             case rel => exact ⟨_, (decide ((wrap64 (bt a0 0)) < 240)), (by first | rfl | (simp; done) | (simp [*]; done)), H', ⟨by have := HJ5.out; first | omega | exact Nat.le_refl _⟩, by repeat (first | exact Drawn0.refl _ | apply Drawn0.step)⟩
           · rw [if_neg c10] at H
             have c10b0 : decide (224 ≤ (wrap64 (bt a0 0))) = false := decide_eq_false c10; clear c10; (first | rw [c10b0] | (simp only [i64_w, i32_w]; rw [c10b0]) | skip); have H' := aM_ H; clear H; go_wp2; (go_meet)
             case rel => exact ⟨_, (false), (by first | rfl | (simp; done) | (simp [*]; done)), H', ⟨by have := HJ5.out; first | omega | exact Nat.le_refl _⟩, by repeat (first | exact Drawn0.refl _ | apply Drawn0.step)⟩
          case rest =>
           clear HC9; (try clear c1); (try clear c2); (try clear c2b0); (try clear c2b1); (try clear p2); (try clear p3); (try clear q3); (try clear hx3); (try clear qi3); (try clear c5); (try clear c5b0); (try clear p6); (try clear c7); (try clear c7b0); (try clear c8); (try clear c10); (try clear c10b0); (try clear p2); (try clear p3); (try clear p6); (try clear q3); obtain ⟨kq, x27_8, rfl, HA, HJ8, ⟨mc8, rfl⟩⟩ := hcut
           cases kq with
           | zero => exact absurd HA.out (by simp [q01_Rune.j1])
           | succ kj8 =>
            have H := HA.out; clear HA; simp only [q01_Rune.j1] at H; (by_cases c11 : x27_8 = true)
            · subst c11
              (have H1 : (q01_Rune.j2 kj8 a0 3 (wrap64 ((wrap64 (bt a0 0)) - 224)) 2048) = some (r1, r2, r3) := by rw [if_pos rfl] at H; exact H); clear H; have H := H1; clear H1; have H' := aM_ H; clear H; go_wp2; (go_meet)
              case rel => exact ⟨_, (3), (wrap64 ((wrap64 (bt a0 0)) - 224)), (2048), (by first | rfl | (simp; done) | (simp [*]; done)), (by first | rfl | (simp; done) | (simp [*]; done)), (by first | rfl | (simp; done) | (simp [*]; done)), H', ⟨by have := HJ5.out; have := HJ8.out; first | omega | exact Nat.le_refl _⟩, by repeat (first | exact Drawn0.refl _ | apply Drawn0.step)⟩
            · replace c11 := Bool.eq_false_iff.mpr c11
              subst c11; (have H1 : (if (wrap64 (bt a0 0)) ≥ 240 then (if (wrap64 (bt a0 0)) < 245 then (q01_Rune.j2 kj8 a0 4 (wrap64 ((wrap64 (bt a0 0)) - 240)) 65536) else (some (65533, 1, false))) else (some (65533, 1, false))) = some (r1, r2, r3) := by rw [if_neg (show ¬ (false = true) by decide)] at H; exact H); clear H; have H := H1; clear H1; (by_cases c12 : (wrap64 (bt a0 0)) ≥ 240)
              · rw [if_pos c12] at H
                have c12b0 : decide (240 ≤ (wrap64 (bt a0 0))) = true := dT_ c12; clear c12; (by_cases c13 : (wrap64 (bt a0 0)) < 245)
                · rw [if_pos c13] at H
                  have c13b0 : decide ((wrap64 (bt a0 0)) < 245) = true := dT_ c13; clear c13; have H' := aM_ H; clear H; go_wp2; (go_meet)
                  case rel => exact ⟨_, (4), (wrap64 ((wrap64 (bt a0 0)) - 240)), (65536), (by first | rfl | (simp; done) | (simp [*]; done)), (by first | rfl | (simp; done) | (simp [*]; done)), (by first | rfl | (simp; done) | (simp [*]; done)), H', ⟨by have := HJ5.out; have := HJ8.out; first | omega | exact Nat.le_refl _⟩, by repeat (first | exact Drawn0.refl _ | apply Drawn0.step)⟩
                (· rw [if_neg c13] at H; have c13b0 : decide ((wrap64 (bt a0 0)) < 245) = false := decide_eq_false c13; clear c13; simp only [oI_, pI_] at H; obtain ⟨rfl, rfl, rfl⟩ := H; go_wp2; (go_ret3); exact ⟨by first | rfl | (simp; done) | (simp [*]; done), by repeat (first | exact Drawn0.refl _ | apply Drawn0.step)⟩)
              (· rw [if_neg c12] at H; have c12b0 : decide (240 ≤ (wrap64 (bt a0 0))) = false := decide_eq_false c12; clear c12; simp only [oI_, pI_] at H; obtain ⟨rfl, rfl, rfl⟩ := H; go_wp2; (go_ret3); exact ⟨by first | rfl | (simp; done) | (simp [*]; done), by repeat (first | exact Drawn0.refl _ | apply Drawn0.step)⟩)
   case rest =>
    clear HC4; (try clear c1); (try clear c2); (try clear c2b0); (try clear c2b1); (try clear p2); (try clear p3); (try clear q3); (try clear hx3); (try clear qi3); (try clear c5); (try clear c5b0); (try clear p6); (try clear c7); (try clear c7b0); (try clear c8); (try clear c10); (try clear c10b0); (try clear c11); (try clear c12); (try clear c12b0); (try clear c13); (try clear c13b0); (try clear p2); (try clear p3); (try clear p6); (try clear q3); obtain ⟨kq, x6_3, x7_3, x8_3, rfl, rfl, rfl, HA, HJ3, ⟨mc3, rfl⟩⟩ := hcut
    cases kq with
    | zero => exact absurd HA.out (by simp [q01_Rune.j2])
    | succ kj3 =>
     have H := HA.out; clear HA; simp only [q01_Rune.j2] at H; (by_cases c14 : (a0.size : Int) < x6_3); (· rw [if_pos c14] at H; have c14b0 : decide ((a0.size : Int) < x6_3) = true := dT_ c14; clear c14; simp only [oI_, pI_] at H; obtain ⟨rfl, rfl, rfl⟩ := H; go_wp2; (go_ret3); exact ⟨by first | rfl | (simp; done) | (simp [*]; done), by repeat (first | exact Drawn0.refl _ | apply Drawn0.step)⟩)
     · rw [if_neg c14] at H
       have c14b0 : decide ((a0.size : Int) < x6_3) = false := decide_eq_false c14; clear c14; have H' := aM_ H; clear H; go_wp2; (go_loopg [7, 9] kj3 (fun kq v7 v9 w' => ∃ (x7_2 : Int) (x9_2 : Int), v7 = .int .i64 x7_2 ∧ v9 = .int .i64 x9_2 ∧ Aside0 (q01_Rune.l0 kq a0 x6_3 x7_2 x8_3 x9_2 = some (r1, r2, r3)) ∧ Aside0 (kq ≤ kj3) ∧ Drawn0 w w'))
       case atStart => exact ⟨(x7_3), (1), (by first | rfl | (simp; done) | (simp [*]; done)), (by first | rfl | (simp; done) | (simp [*]; done)), H', ⟨Nat.le_refl _⟩, by repeat (first | exact Drawn0.refl _ | apply Drawn0.step)⟩
       case round =>
        clear H'; (try clear c1); (try clear c2); (try clear c2b0); (try clear c2b1); (try clear p2); (try clear c3); (try clear p3); (try clear q3); (try clear hx3); (try clear qi3); (try clear c5); (try clear c5b0); (try clear p6); (try clear c7); (try clear c7b0); (try clear c8); (try clear c10); (try clear c10b0); (try clear c11); (try clear c12); (try clear c12b0); (try clear c13); (try clear c13b0); (try clear c14); (try clear c14b0); (try clear p2); (try clear p3); (try clear p6); (try clear q3); obtain ⟨x7_2, x9_2, rfl, rfl, HA, HK2, ⟨m2, rfl⟩⟩ := hrel
        cases gk with
        | zero => exact absurd HA.out (by simp [q01_Rune.l0])
        | succ k2 =>
         have H := HA.out; clear HA; simp only [q01_Rune.l0] at H; (by_cases c15 : x9_2 < x6_3)
         · rw [if_pos c15] at H
           have c15b0 : decide (x9_2 < x6_3) = true := dT_ c15; clear c15; (by_cases c16 : 0 ≤ x9_2)
           · rw [if_pos c16] at H
             have c16b0 : decide (0 ≤ x9_2) = true := dT_ c16; clear c16; (by_cases c17 : x9_2 < (a0.size : Int))
             · rw [if_pos c17] at H
               have c17b0 : decide (x9_2 < (a0.size : Int)) = true := dT_ c17; clear c17; (by_cases c19 : (wrap64 (bt a0 x9_2)) < 128); (· rw [if_pos c19] at H; have c19b0 : decide ((wrap64 (bt a0 x9_2)) < 128) = true := dT_ c19; clear c19; simp only [oI_, pI_] at H; obtain ⟨rfl, rfl, rfl⟩ := H; have p18 : 0 ≤ (x9_2 : Int) := oD_ (by assumption); have q18 : x9_2 < (a0.size : Int) := oD_ (by assumption); have hx18 := bt_at a0 x9_2; replace p18 := eq_true p18; replace q18 := eq_true q18; go_wp2; (go_ret3); exact ⟨by first | rfl | (simp; done) | (simp [*]; done), by repeat (first | exact Drawn0.refl _ | apply Drawn0.step)⟩)
               · rw [if_neg c19] at H
                 have c19b0 : decide ((wrap64 (bt a0 x9_2)) < 128) = false := decide_eq_false c19; clear c19; (by_cases c20 : (wrap64 (bt a0 x9_2)) ≥ 192); (· rw [if_pos c20] at H; have c20b0 : decide (192 ≤ (wrap64 (bt a0 x9_2))) = true := dT_ c20; clear c20; simp only [oI_, pI_] at H; obtain ⟨rfl, rfl, rfl⟩ := H; have p18 : 0 ≤ (x9_2 : Int) := oD_ (by assumption); have q18 : x9_2 < (a0.size : Int) := oD_ (by assumption); have hx18 := bt_at a0 x9_2; replace p18 := eq_true p18; replace q18 := eq_true q18; go_wp2; (go_ret3); exact ⟨by first | rfl | (simp; done) | (simp [*]; done), by repeat (first | exact Drawn0.refl _ | apply Drawn0.step)⟩)
                 · rw [if_neg c20] at H
                   have c20b0 : decide (192 ≤ (wrap64 (bt a0 x9_2))) = false := decide_eq_false c20; clear c20; have H' := aM_ H; clear H; have p18 : 0 ≤ (x9_2 : Int) := oD_ (by assumption); have q18 : x9_2 < (a0.size : Int) := oD_ (by assumption); have hx18 := bt_at a0 x9_2; replace p18 := eq_true p18; replace q18 := eq_true q18; go_wp2; (go_roundg k2)
                   case measure => have := HJ3.out; have := HK2.out; omega
                   case rel => exact ⟨(wrap64 ((wrap64 ((wrap64 (x7_2 * 64)) + (wrap64 (bt a0 x9_2)))) - 128)), (wrap64 (x9_2 + 1)), (by first | rfl | (simp; done) | (simp [*]; done)), (by first | rfl | (simp; done) | (simp [*]; done)), H', ⟨by have := HJ3.out; have := HK2.out; omega⟩, by repeat (first | exact Drawn0.refl _ | apply Drawn0.step)⟩
             (· rw [if_neg c17] at H; exact absurd H (by simp))
           (· rw [if_neg c16] at H; exact absurd H (by simp))
         (· rw [if_neg c15] at H; have c15b0 : decide (x9_2 < x6_3) = false := decide_eq_false c15; clear c15; (by_cases c21 : x7_2 < x8_3); (· rw [if_pos c21] at H; have c21b0 : decide (x7_2 < x8_3) = true := dT_ c21; clear c21; simp only [oI_, pI_] at H; obtain ⟨rfl, rfl, rfl⟩ := H; go_wp2; (go_ret3); exact ⟨by first | rfl | (simp; done) | (simp [*]; done), by repeat (first | exact Drawn0.refl _ | apply Drawn0.step)⟩); (· rw [if_neg c21] at H; have c21b0 : decide (x7_2 < x8_3) = false := decide_eq_false c21; clear c21; (by_cases c22 : x7_2 > 1114111); (· rw [if_pos c22] at H; have c22b0 : decide (1114111 < x7_2) = true := dT_ c22; clear c22; simp only [oI_, pI_] at H; obtain ⟨rfl, rfl, rfl⟩ := H; go_wp2; (go_ret3); exact ⟨by first | rfl | (simp; done) | (simp [*]; done), by repeat (first | exact Drawn0.refl _ | apply Drawn0.step)⟩); (· rw [if_neg c22] at H; have c22b0 : decide (1114111 < x7_2) = false := decide_eq_false c22; clear c22; (by_cases c23 : x7_2 ≥ 55296); (· rw [if_pos c23] at H; have c23b0 : decide (55296 ≤ x7_2) = true := dT_ c23; clear c23; (by_cases c24 : x7_2 < 57344); (· rw [if_pos c24] at H; have c24b0 : decide (x7_2 < 57344) = true := dT_ c24; clear c24; simp only [oI_, pI_] at H; obtain ⟨rfl, rfl, rfl⟩ := H; go_wp2; (go_ret3); exact ⟨by first | rfl | (simp; done) | (simp [*]; done), by repeat (first | exact Drawn0.refl _ | apply Drawn0.step)⟩); (· rw [if_neg c24] at H; have c24b0 : decide (x7_2 < 57344) = false := decide_eq_false c24; clear c24; simp only [oI_, pI_] at H; obtain ⟨rfl, rfl, rfl⟩ := H; go_wp2; (go_ret3); exact ⟨by first | rfl | (simp; done) | (simp [*]; done), by repeat (first | exact Drawn0.refl _ | apply Drawn0.step)⟩)); (· rw [if_neg c23] at H; have c23b0 : decide (55296 ≤ x7_2) = false := decide_eq_false c23; clear c23; simp only [oI_, pI_] at H; obtain ⟨rfl, rfl, rfl⟩ := H; go_wp2; (go_ret3); exact ⟨by first | rfl | (simp; done) | (simp [*]; done), by repeat (first | exact Drawn0.refl _ | apply Drawn0.step)⟩))))
 (· rw [if_neg c2] at H; exact absurd H (by simp))
mutual
def q01_Check.j0 : Nat → ByteArray → Bool → Option (Int)
  | 0, _, _ => none
  | k + 1, x0, x17 => if x17 = true then (some 206) else (q01_Check.l0 k x0 0)
def q01_Check.l0 : Nat → ByteArray → Int → Option (Int)
  | 0, _, _ => none
  | k + 1, x0, x3 => if x3 < (x0.size : Int) then (if 0 ≤ x3 then (if x3 ≤ (x0.size : Int) then ((q01_Rune.f k (x0.extract (x3 : Int).toNat x0.size)).bind fun bt257 => (if bt257.2.2 = true then (if bt257.1 = 47 then (some 206) else (if bt257.1 = 0 then (some 206) else (q01_Check.l0 k x0 (wrap64 (x3 + bt257.2.1))))) else (some 206))) else (none)) else (none)) else (some 0)
end
def q01_Check.f (k : Nat) (a0 : ByteArray) : Option (Int) := if a0.toList = ([] : List UInt8) then (some 206) else (if (a0.size : Int) > 100 then (some 208) else (if a0.toList = ([46] : List UInt8) then (q01_Check.j0 k a0 true) else (q01_Check.j0 k a0 (a0.toList == ([46, 46] : List UInt8)))))
theorem q01_Check.mono_l : ∀ k, (∀ y0 y1, LeO (q01_Check.j0 k y0 y1) (q01_Check.j0 (k + 1) y0 y1)) ∧ (∀ y0 y1, LeO (q01_Check.l0 k y0 y1) (q01_Check.l0 (k + 1) y0 y1))
  | 0 => ⟨fun _ _ r h => by simp [q01_Check.j0] at h, fun _ _ r h => by simp [q01_Check.l0] at h⟩
  | k + 1 => by
    obtain ⟨ih0, ih1⟩ := q01_Check.mono_l k
    refine ⟨?_, ?_⟩
    · intro y0 y1
      unfold q01_Check.j0
      repeat' first
      | (with_reducible exact ih0 _ _)
      | (with_reducible exact ih1 _ _)
      | (with_reducible exact q01_Rune.mono _ _)
      | (with_reducible exact LeO.refl _)
      | (with_reducible exact LeO.none _)
      | (with_reducible refine LeO.ite ?_ ?_)
      | (with_reducible refine LeO.bind ?_ (fun _ => ?_))
      | exact ih0 _ _
      | exact ih1 _ _
      | exact LeO.none _
      | refine LeO.ite ?_ ?_
      | refine LeO.bind ?_ (fun _ => ?_)
    · intro y0 y1
      unfold q01_Check.l0
      repeat' first
      | (with_reducible exact ih0 _ _)
      | (with_reducible exact ih1 _ _)
      | (with_reducible exact q01_Rune.mono _ _)
      | (with_reducible exact LeO.refl _)
      | (with_reducible exact LeO.none _)
      | (with_reducible refine LeO.ite ?_ ?_)
      | (with_reducible refine LeO.bind ?_ (fun _ => ?_))
      | exact ih0 _ _
      | exact ih1 _ _
      | exact LeO.none _
      | refine LeO.ite ?_ ?_
      | refine LeO.bind ?_ (fun _ => ?_)
theorem q01_Check.mono : ∀ a0 k, LeO (q01_Check.f k a0) (q01_Check.f (k + 1) a0) := by
 intro a0 k; obtain ⟨ih0, ih1⟩ := q01_Check.mono_l k; unfold q01_Check.f
 repeat' first
     | (with_reducible exact ih0 _ _)
     | (with_reducible exact ih1 _ _)
     | (with_reducible exact q01_Rune.mono _ _)
     | (with_reducible exact LeO.refl _)
     | (with_reducible exact LeO.none _)
     | (with_reducible refine LeO.ite ?_ ?_)
     | (with_reducible refine LeO.bind ?_ (fun _ => ?_))
     | exact ih0 _ _
     | exact ih1 _ _
     | exact LeO.none _
     | refine LeO.ite ?_ ?_
     | refine LeO.bind ?_ (fun _ => ?_)
theorem q01_Check.calls (k : Nat) (a0 : ByteArray) (r : Int) (w : World) (h : q01_Check.f k a0 = some r) :
    Calls Tryd.prog 50 #[.string a0] w fun e w' => e = .returned (.int .i64 r) ∧ Drawn0 w w' := by
 have H : (if a0.toList = ([] : List UInt8) then (some 206) else (if (a0.size : Int) > 100 then (some 208) else (if a0.toList = ([46] : List UInt8) then (q01_Check.j0 k a0 true) else (q01_Check.j0 k a0 (a0.toList == ([46, 46] : List UInt8)))))) = some r := h; clear h; (by_cases c2 : a0.toList = ([] : List UInt8)); (· rw [if_pos c2] at H; have c2b0 : (a0.toList == ([] : List UInt8)) = true := beq_iff_eq.mpr c2; have c2b1 : (a0.toList != ([] : List UInt8)) = false := bne_eq_false_iff_eq.mpr c2; clear c2; obtain rfl := oJ_ H; simp only [oI_, pI_] at H; obtain ⟨rfl⟩ := H; (go_enter Tryd.func50, Tryd.ntmps50); go_wp2; go_ret; exact ⟨by first | rfl | (simp; done) | (simp [*]; done), by repeat (first | exact Drawn0.refl _ | apply Drawn0.step)⟩)
 · rw [if_neg c2] at H
   have c2b0 : (a0.toList == ([] : List UInt8)) = false := beq_eq_false_iff_ne.mpr c2; have c2b1 : (a0.toList != ([] : List UInt8)) = true := bne_iff_ne.mpr c2; (by_cases c3 : (a0.size : Int) > 100); (· rw [if_pos c3] at H; have c3b0 : decide (100 < (a0.size : Int)) = true := dT_ c3; have c3b1 : decide (100 < a0.size) = true := dT_ (by omega); clear c3; obtain rfl := oJ_ H; simp only [oI_, pI_] at H; obtain ⟨rfl⟩ := H; (go_enter Tryd.func50, Tryd.ntmps50); go_wp2; go_ret; exact ⟨by first | rfl | (simp; done) | (simp [*]; done), by repeat (first | exact Drawn0.refl _ | apply Drawn0.step)⟩)
   · rw [if_neg c3] at H
     have c3b0 : decide (100 < (a0.size : Int)) = false := decide_eq_false c3; have c3b1 : decide (100 < a0.size) = false := decide_eq_false (by omega); clear c3; have HC4 := aM_ H; clear H; (go_enter Tryd.func50, Tryd.ntmps50); (go_upto_region 5 with (fail)); (go_cut [17] (fun v17 wc => ∃ (kq : Nat) (x17_3 : Bool), v17 = .bool x17_3 ∧ Aside0 (q01_Check.j0 kq a0 x17_3 = some r) ∧ Aside0 (kq ≤ k) ∧ Drawn0 w wc))
     case first =>
      have H := HC4.out; clear HC4; (by_cases c5 : a0.toList = ([46] : List UInt8))
      · rw [if_pos c5] at H
        have c5b0 : (a0.toList == ([46] : List UInt8)) = true := beq_iff_eq.mpr c5; have c5b1 : (a0.toList != ([46] : List UInt8)) = false := bne_eq_false_iff_eq.mpr c5; clear c5; (first | rw [c5b0] | (simp only [i64_w, i32_w]; rw [c5b0]) | skip); have H' := aM_ H; clear H; go_wp2; (go_meet)
        case rel => exact ⟨_, (true), (by first | rfl | (simp; done) | (simp [*]; done)), H', ⟨by first | omega | exact Nat.le_refl _⟩, by repeat (first | exact Drawn0.refl _ | apply Drawn0.step)⟩
      · rw [if_neg c5] at H
        have c5b0 : (a0.toList == ([46] : List UInt8)) = false := beq_eq_false_iff_ne.mpr c5; have c5b1 : (a0.toList != ([46] : List UInt8)) = true := bne_iff_ne.mpr c5; (first | rw [c5b0] | (simp only [i64_w, i32_w]; rw [c5b0]) | skip); have H' := aM_ H; clear H; go_wp2; (go_meet)
        case rel => exact ⟨_, ((a0.toList == ([46, 46] : List UInt8))), (by first | rfl | (simp; done) | (simp [*]; done)), H', ⟨by first | omega | exact Nat.le_refl _⟩, by repeat (first | exact Drawn0.refl _ | apply Drawn0.step)⟩
     case rest =>
      clear HC4; (try clear c2); (try clear c2b0); (try clear c2b1); (try clear p2); (try clear c3); (try clear c3b0); (try clear c3b1); (try clear c5); (try clear c5b0); (try clear c5b1); obtain ⟨kq, x17_3, rfl, HA, HJ3, ⟨mc3, rfl⟩⟩ := hcut
      cases kq with
      | zero => exact absurd HA.out (by simp [q01_Check.j0])
      | succ kj3 =>
       have H := HA.out; clear HA; simp only [q01_Check.j0] at H; (by_cases c6 : x17_3 = true); (· subst c6; (have H1 : (some 206) = some r := by rw [if_pos rfl] at H; exact H); clear H; have H := H1; clear H1; obtain rfl := oJ_ H; simp only [oI_, pI_] at H; obtain ⟨rfl⟩ := H; go_wp2; go_ret; exact ⟨by first | rfl | (simp; done) | (simp [*]; done), by repeat (first | exact Drawn0.refl _ | apply Drawn0.step)⟩)
       · replace c6 := Bool.eq_false_iff.mpr c6
         subst c6; (have H1 : (q01_Check.l0 kj3 a0 0) = some r := by rw [if_neg (show ¬ (false = true) by decide)] at H; exact H); clear H; have H := H1; clear H1; have H' := aM_ H; clear H; go_wp2; (go_loopg [3] kj3 (fun kq v3 w' => ∃ (x3_2 : Int), v3 = .int .i64 x3_2 ∧ Aside0 (q01_Check.l0 kq a0 x3_2 = some r) ∧ Aside0 (kq ≤ kj3) ∧ Drawn0 w w'))
         case atStart => exact ⟨(0), (by first | rfl | (simp; done) | (simp [*]; done)), H', ⟨Nat.le_refl _⟩, by repeat (first | exact Drawn0.refl _ | apply Drawn0.step)⟩
         case round =>
          clear H'; (try clear c2); (try clear c2b0); (try clear c2b1); (try clear p2); (try clear c3); (try clear c3b0); (try clear c3b1); (try clear c5); (try clear c5b0); (try clear c5b1); (try clear c6); (try clear p2); obtain ⟨x3_2, rfl, HA, HK2, ⟨m2, rfl⟩⟩ := hrel
          cases gk with
          | zero => exact absurd HA.out (by simp [q01_Check.l0])
          | succ k2 =>
           have H := HA.out; clear HA; simp only [q01_Check.l0] at H; (by_cases c7 : x3_2 < (a0.size : Int))
           · rw [if_pos c7] at H
             have c7b0 : decide (x3_2 < (a0.size : Int)) = true := dT_ c7; clear c7; (by_cases c8 : 0 ≤ x3_2)
             · rw [if_pos c8] at H
               have c8b0 := eq_true c8; have c8b1 : decide (0 ≤ x3_2) = true := dT_ c8; clear c8; (by_cases c9 : x3_2 ≤ (a0.size : Int))
               · rw [if_pos c9] at H
                 have c9b0 := eq_true c9; have c9b1 : decide (x3_2 ≤ (a0.size : Int)) = true := dT_ c9; clear c9; replace H := Option.bind_eq_some_iff.mp H; obtain ⟨⟨t257, t258, t259⟩, A100, H⟩ := H; replace H : (if t259 = true then (if t257 = 47 then (some 206) else (if t257 = 0 then (some 206) else (q01_Check.l0 k2 a0 (wrap64 (x3_2 + t258))))) else (some 206)) = some r := H; have A10 := aM_ A100; clear A100; (by_cases c11 : t259 = true)
                 · subst c11
                   (have H1 : (if t257 = 47 then (some 206) else (if t257 = 0 then (some 206) else (q01_Check.l0 k2 a0 (wrap64 (x3_2 + t258))))) = some r := by rw [if_pos rfl] at H; exact H); clear H; have H := H1; clear H1; (by_cases c12 : t257 = 47); (· rw [if_pos c12] at H; have c12b0 : (t257 == 47) = true := beq_iff_eq.mpr c12; have c12b1 : (t257 != 47) = false := bne_eq_false_iff_eq.mpr c12; clear c12; obtain rfl := oJ_ H; simp only [oI_, pI_] at H; obtain ⟨rfl⟩ := H; (go_wp2_with (first | ((with_reducible refine gate_callee (f := 58) rfl ?_); refine goesL_ (some 26) rfl rfl Tryd.func58 (by kernel_rfl) rfl #[.string (a0.extract (x3_2 : Int).toNat a0.size)] rfl (by (try simp only [mA_, mC_, mN_]); first | done | rfl | (simp only [lD_, lT_]; rfl)) ?_; (with_reducible refine (q01_Rune.calls k2 (a0.extract (x3_2 : Int).toNat a0.size) t257 t258 true _ A10.out).mono ?_); rintro e w' ⟨rfl, ⟨nd, rfl⟩⟩; refine ⟨_, rfl, ?_⟩))); go_ret; exact ⟨by first | rfl | (simp; done) | (simp [*]; done), by repeat (first | exact Drawn0.refl _ | apply Drawn0.step)⟩)
                   · rw [if_neg c12] at H
                     have c12b0 : (t257 == 47) = false := beq_eq_false_iff_ne.mpr c12; have c12b1 : (t257 != 47) = true := bne_iff_ne.mpr c12; (by_cases c13 : t257 = 0); (· rw [if_pos c13] at H; have c13b0 : (t257 == 0) = true := beq_iff_eq.mpr c13; have c13b1 : (t257 != 0) = false := bne_eq_false_iff_eq.mpr c13; clear c13; obtain rfl := oJ_ H; simp only [oI_, pI_] at H; obtain ⟨rfl⟩ := H; (go_wp2_with (first | ((with_reducible refine gate_callee (f := 58) rfl ?_); refine goesL_ (some 26) rfl rfl Tryd.func58 (by kernel_rfl) rfl #[.string (a0.extract (x3_2 : Int).toNat a0.size)] rfl (by (try simp only [mA_, mC_, mN_]); first | done | rfl | (simp only [lD_, lT_]; rfl)) ?_; (with_reducible refine (q01_Rune.calls k2 (a0.extract (x3_2 : Int).toNat a0.size) t257 t258 true _ A10.out).mono ?_); rintro e w' ⟨rfl, ⟨nd, rfl⟩⟩; refine ⟨_, rfl, ?_⟩))); go_ret; exact ⟨by first | rfl | (simp; done) | (simp [*]; done), by repeat (first | exact Drawn0.refl _ | apply Drawn0.step)⟩)
                     · rw [if_neg c13] at H
                       have c13b0 : (t257 == 0) = false := beq_eq_false_iff_ne.mpr c13; have c13b1 : (t257 != 0) = true := bne_iff_ne.mpr c13; have H' := aM_ H; clear H; (go_wp2_with (first | ((with_reducible refine gate_callee (f := 58) rfl ?_); refine goesL_ (some 26) rfl rfl Tryd.func58 (by kernel_rfl) rfl #[.string (a0.extract (x3_2 : Int).toNat a0.size)] rfl (by (try simp only [mA_, mC_, mN_]); first | done | rfl | (simp only [lD_, lT_]; rfl)) ?_; (with_reducible refine (q01_Rune.calls k2 (a0.extract (x3_2 : Int).toNat a0.size) t257 t258 true _ A10.out).mono ?_); rintro e w' ⟨rfl, ⟨nd, rfl⟩⟩; refine ⟨_, rfl, ?_⟩))); (go_roundg k2)
                       case measure => have := HJ3.out; have := HK2.out; omega
                       case rel => exact ⟨(wrap64 (x3_2 + t258)), (by first | rfl | (simp; done) | (simp [*]; done)), H', ⟨by have := HJ3.out; have := HK2.out; omega⟩, by repeat (first | exact Drawn0.refl _ | apply Drawn0.step)⟩
                 (· replace c11 := Bool.eq_false_iff.mpr c11; subst c11; (have H1 : (some 206) = some r := by rw [if_neg (show ¬ (false = true) by decide)] at H; exact H); clear H; have H := H1; clear H1; obtain rfl := oJ_ H; simp only [oI_, pI_] at H; obtain ⟨rfl⟩ := H; (go_wp2_with (first | ((with_reducible refine gate_callee (f := 58) rfl ?_); refine goesL_ (some 26) rfl rfl Tryd.func58 (by kernel_rfl) rfl #[.string (a0.extract (x3_2 : Int).toNat a0.size)] rfl (by (try simp only [mA_, mC_, mN_]); first | done | rfl | (simp only [lD_, lT_]; rfl)) ?_; (with_reducible refine (q01_Rune.calls k2 (a0.extract (x3_2 : Int).toNat a0.size) t257 t258 false _ A10.out).mono ?_); rintro e w' ⟨rfl, ⟨nd, rfl⟩⟩; refine ⟨_, rfl, ?_⟩))); go_ret; exact ⟨by first | rfl | (simp; done) | (simp [*]; done), by repeat (first | exact Drawn0.refl _ | apply Drawn0.step)⟩)
               (· rw [if_neg c9] at H; exact absurd H (by simp))
             (· rw [if_neg c8] at H; exact absurd H (by simp))
           (· rw [if_neg c7] at H; have c7b0 : decide (x3_2 < (a0.size : Int)) = false := decide_eq_false c7; clear c7; obtain rfl := oJ_ H; simp only [oI_, pI_] at H; obtain ⟨rfl⟩ := H; go_wp2; go_ret; exact ⟨by first | rfl | (simp; done) | (simp [*]; done), by repeat (first | exact Drawn0.refl _ | apply Drawn0.step)⟩)
end Go.Proofs.YtigbmfogfgbmfaaDoor.Fn
