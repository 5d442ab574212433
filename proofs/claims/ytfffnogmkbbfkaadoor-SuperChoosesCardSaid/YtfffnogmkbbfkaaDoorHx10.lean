import Derived.Test.YtfffnogmkbbfkaaDoorHx0
import Derived.Test.YtfffnogmkbbfkaaDoorHx2
import Derived.Test.YtfffnogmkbbfkaaDoorHx3
import Derived.Test.YtfffnogmkbbfkaaDoorHx4
import Derived.Test.YtfffnogmkbbfkaaDoorHx9
namespace Go.Proofs.YtfffnogmkbbfkaaDoor.Fn
set_option maxHeartbeats 8000000
set_option maxRecDepth 100000
open Go.RowKit Go.Proofs.YtfffnogmkbbfkaaDoorW.PrintWords Go.Proofs.YtfffnogmkbbfkaaDoorW.PrintLast Go.Proofs.YtfffnogmkbbfkaaDoorW.PrintMore
attribute [local go_sem] max2_int min2_int max_two min_two max_three min_three max_four min_four
set_option linter.unusedVariables false
set_option linter.unusedSimpArgs false
def q02_Same.f (l0 : List Int) (l1 : List Int) : Option (Bool) := some ((strOfNums l0).toList == (strOfNums l1).toList)
theorem q02_Same.calls (A0 : Option Addr) (c0 : Nat) (l0 : List Int) (A1 : Option Addr) (c1 : Nat) (l1 : List Int) (r : Bool) (w : World) (hr0 : Kd.C (Kd.int .u8) w A0 l0.length l0) (hc0 : l0.length ≤ c0) (hr1 : Kd.C (Kd.int .u8) w A1 l1.length l1) (hc1 : l1.length ≤ c1) (h : q02_Same.f l0 l1 = some r) :
    Calls Tryd.prog 12 #[.slice A0 l0.length c0, .slice A1 l1.length c1] w fun e w' => e = .returned (.bool r) ∧ Drawn0 w w' := by
 have HR0 := aM_ hr0; have HC0 := aM_ hc0; clear hr0 hc0; have HR1 := aM_ hr1; have HC1 := aM_ hc1; clear hr1 hc1; have H : (some ((strOfNums l0).toList == (strOfNums l1).toList)) = some r := h; clear h; obtain rfl := oJ_ H; simp only [oI_, pI_] at H; obtain ⟨rfl⟩ := H; have hcv3 := Kd.C_string (P := Tryd.prog) (A := A0) (c := c0) Tryd.underlying26 Tryd.underlying5 Tryd.underlying9 HR0.out; have hcv4 := Kd.C_string (P := Tryd.prog) (A := A1) (c := c1) Tryd.underlying26 Tryd.underlying5 Tryd.underlying9 HR1.out; (go_enter Tryd.func12, Tryd.ntmps12); go_wp2; go_ret; exact ⟨by first | rfl | (simp; done) | (simp [*]; done), by repeat (first | exact Drawn0.refl _ | apply Drawn0.step)⟩
def q07_digit.l0 : Nat → Int → Int → Option (Int)
  | 0, _, _ => none
  | k + 1, x0, x3 => if x3 < 16 then (if 0 ≤ x3 then (if (bt (⟨#[48, 49, 50, 51, 52, 53, 54, 55, 56, 57, 97, 98, 99, 100, 101, 102]⟩ : ByteArray) x3) = x0 then (some x3) else (q07_digit.l0 k x0 (wrap64 (x3 + 1)))) else (none)) else (some (-1))
def q07_digit.f (k : Nat) (a0 : Int) : Option (Int) := q07_digit.l0 k a0 0
theorem q07_digit.mono_l : ∀ k, (∀ y0 y1, LeO (q07_digit.l0 k y0 y1) (q07_digit.l0 (k + 1) y0 y1))
  | 0 => fun _ _ r h => by simp [q07_digit.l0] at h
  | k + 1 => by
    have ih0 := q07_digit.mono_l k
    · intro y0 y1
      unfold q07_digit.l0
      repeat' first
      | (with_reducible exact ih0 _ _)
      | (with_reducible exact LeO.refl _)
      | (with_reducible exact LeO.none _)
      | (with_reducible refine LeO.ite ?_ ?_)
      | (with_reducible refine LeO.bind ?_ (fun _ => ?_))
      | exact ih0 _ _
      | exact LeO.none _
      | refine LeO.ite ?_ ?_
      | refine LeO.bind ?_ (fun _ => ?_)
theorem q07_digit.mono : ∀ a0 k, LeO (q07_digit.f k a0) (q07_digit.f (k + 1) a0) := by
 intro a0 k; have ih0 := q07_digit.mono_l k; unfold q07_digit.f
 repeat' first
     | (with_reducible exact ih0 _ _)
     | (with_reducible exact LeO.refl _)
     | (with_reducible exact LeO.none _)
     | (with_reducible refine LeO.ite ?_ ?_)
     | (with_reducible refine LeO.bind ?_ (fun _ => ?_))
     | exact ih0 _ _
     | exact LeO.none _
     | refine LeO.ite ?_ ?_
     | refine LeO.bind ?_ (fun _ => ?_)
theorem q07_digit.calls (k : Nat) (a0 : Int) (r : Int) (w : World) (h : q07_digit.f k a0 = some r) :
    Calls Tryd.prog 43 #[.int .u8 a0] w fun e w' => e = .returned (.int .i64 r) ∧ Drawn0 w w' := by
 have H : (q07_digit.l0 k a0 0) = some r := h; clear h; have H' := aM_ H; clear H; (go_enter Tryd.func43, Tryd.ntmps43); go_wp2; (go_loopg [3] k (fun kq v3 w' => ∃ (x3_1 : Int), v3 = .int .i64 x3_1 ∧ Aside0 (q07_digit.l0 kq a0 x3_1 = some r) ∧ Aside0 (kq ≤ k) ∧ Drawn0 w w'))
 case atStart => exact ⟨(0), (by first | rfl | (simp; done) | (simp [*]; done)), H', ⟨Nat.le_refl _⟩, by repeat (first | exact Drawn0.refl _ | apply Drawn0.step)⟩
 case round =>
  clear H'; obtain ⟨x3_1, rfl, HA, HK1, ⟨m1, rfl⟩⟩ := hrel
  cases gk with
  | zero => exact absurd HA.out (by simp [q07_digit.l0])
  | succ k1 =>
   have H := HA.out; clear HA; simp only [q07_digit.l0] at H; (by_cases c2 : x3_1 < 16)
   · rw [if_pos c2] at H
     have c2b0 : decide (x3_1 < 16) = true := dT_ c2; clear c2; (by_cases c3 : 0 ≤ x3_1)
     · rw [if_pos c3] at H
       have c3b0 : decide (0 ≤ x3_1) = true := dT_ c3; clear c3; (by_cases c5 : (bt (⟨#[48, 49, 50, 51, 52, 53, 54, 55, 56, 57, 97, 98, 99, 100, 101, 102]⟩ : ByteArray) x3_1) = a0); (· rw [if_pos c5] at H; have c5b0 : ((bt (⟨#[48, 49, 50, 51, 52, 53, 54, 55, 56, 57, 97, 98, 99, 100, 101, 102]⟩ : ByteArray) x3_1) == a0) = true := beq_iff_eq.mpr c5; have c5b1 : ((bt (⟨#[48, 49, 50, 51, 52, 53, 54, 55, 56, 57, 97, 98, 99, 100, 101, 102]⟩ : ByteArray) x3_1) != a0) = false := bne_eq_false_iff_eq.mpr c5; clear c5; obtain rfl := oJ_ H; simp only [oI_, pI_] at H; obtain ⟨rfl⟩ := H; have p4 : 0 ≤ (x3_1 : Int) := oD_ (by assumption); have q4 : x3_1 < (16 : Int) := oD_ (by assumption); have hx4 := bt_at (⟨#[48, 49, 50, 51, 52, 53, 54, 55, 56, 57, 97, 98, 99, 100, 101, 102]⟩ : ByteArray) x3_1; replace p4 := eq_true p4; replace q4 := eq_true q4; go_wp2; go_ret; exact ⟨by first | rfl | (simp; done) | (simp [*]; done), by repeat (first | exact Drawn0.refl _ | apply Drawn0.step)⟩)
       · rw [if_neg c5] at H
         have c5b0 : ((bt (⟨#[48, 49, 50, 51, 52, 53, 54, 55, 56, 57, 97, 98, 99, 100, 101, 102]⟩ : ByteArray) x3_1) == a0) = false := beq_eq_false_iff_ne.mpr c5; have c5b1 : ((bt (⟨#[48, 49, 50, 51, 52, 53, 54, 55, 56, 57, 97, 98, 99, 100, 101, 102]⟩ : ByteArray) x3_1) != a0) = true := bne_iff_ne.mpr c5; have H' := aM_ H; clear H; have p4 : 0 ≤ (x3_1 : Int) := oD_ (by assumption); have q4 : x3_1 < (16 : Int) := oD_ (by assumption); have hx4 := bt_at (⟨#[48, 49, 50, 51, 52, 53, 54, 55, 56, 57, 97, 98, 99, 100, 101, 102]⟩ : ByteArray) x3_1; replace p4 := eq_true p4; replace q4 := eq_true q4; go_wp2; (go_roundg k1)
         case measure => have := HK1.out; omega
         case rel => exact ⟨(wrap64 (x3_1 + 1)), (by first | rfl | (simp; done) | (simp [*]; done)), H', ⟨by have := HK1.out; omega⟩, by repeat (first | exact Drawn0.refl _ | apply Drawn0.step)⟩
     (· rw [if_neg c3] at H; exact absurd H (by simp))
   (· rw [if_neg c2] at H; have c2b0 : decide (x3_1 < 16) = false := decide_eq_false c2; clear c2; obtain rfl := oJ_ H; simp only [oI_, pI_] at H; obtain ⟨rfl⟩ := H; go_wp2; go_ret; exact ⟨by first | rfl | (simp; done) | (simp [*]; done), by repeat (first | exact Drawn0.refl _ | apply Drawn0.step)⟩)
end Go.Proofs.YtfffnogmkbbfkaaDoor.Fn
