import Derived.Test.YtjjbofbkpmabbaaHx0
import Derived.Test.YtjjbofbkpmabbaaHx2
import Derived.Test.YtjjbofbkpmabbaaHx5
namespace Go.Proofs.Ytjjbofbkpmabbaa.Fn
set_option maxHeartbeats 8000000
set_option maxRecDepth 100000
open Go.RowKit Go.Proofs.YtjjbofbkpmabbaaW.PrintWords Go.Proofs.YtjjbofbkpmabbaaW.PrintLast Go.Proofs.YtjjbofbkpmabbaaW.PrintMore
attribute [local go_sem] max2_int min2_int max_two min_two max_three min_three max_four min_four
set_option linter.unusedVariables false
set_option linter.unusedSimpArgs false
mutual
def content_Plan.j1 : Nat → List Int → Int → Int → Option ((List (S32)) × (List (List Int)))
  | 0, _, _, _ => none
  | k + 1, x0, x1, x8 => if x1 ≤ 0 then (content_Plan.j2 k x0 x1 x8 ([] : List (S32)) true) else (if x8 < 512 then (content_Plan.j2 k x0 x1 x8 ([] : List (S32)) (decide (x8 < (x0.length : Int)))) else (content_Plan.j2 k x0 x1 x8 ([] : List (S32)) false))
def content_Plan.j2 : Nat → List Int → Int → Int → List (S32) → Bool → Option ((List (S32)) × (List (List Int)))
  | 0, _, _, _, _, _ => none
  | k + 1, x0, x1, x8, x9, x44 => if x44 = true then (content_Plan.j3 k x0 x1 0 x9) else (content_Plan.j3 k x0 x1 x8 x9)
def content_Plan.j3 : Nat → List Int → Int → Int → List (S32) → Option ((List (S32)) × (List (List Int)))
  | 0, _, _, _, _ => none
  | k + 1, x0, x1, x8, x9 => if x8 > 0 then (if x9.length < 3518437208883 then (content_Plan.j4 k x0 x8 (x9 ++ [(⟨(⟨#[]⟩ : ByteArray), x1, 0, x8⟩ : S32)])) else (none)) else (content_Plan.j4 k x0 x8 x9)
def content_Plan.j4 : Nat → List Int → Int → List (S32) → Option ((List (S32)) × (List (List Int)))
  | 0, _, _, _ => none
  | k + 1, x0, x8, x9 => if 0 ≤ x8 then (if x8 ≤ (x0.length : Int) then ((cut_Split.f k (x0.drop (x8 : Int).toNat)).bind fun t186 => (content_Plan.l1 k x9 t186 t186 (t186.length : Int) 0)) else (none)) else (none)
def content_Plan.l1 : Nat → List (S32) → List (List Int) → List (List Int) → Int → Int → Option ((List (S32)) × (List (List Int)))
  | 0, _, _, _, _, _ => none
  | k + 1, x9, x10, x57, x58, x59 => if x59 < x58 then (if 0 ≤ x59 then (if x59 < (x57.length : Int) then ((key_Of.f k 1 (rd_L1 x57 x59)).bind fun t190 => (if x9.length < 3518437208883 then (content_Plan.l1 k (x9 ++ [(⟨t190, 0, 0, ((rd_L1 x57 x59).length : Int)⟩ : S32)]) x10 x57 x58 (wrap64 (x59 + 1))) else (none))) else (none)) else (none)) else (some (x9, x10))
def content_Plan.l0 : Nat → List Int → Int → List Int → Int → Option ((List (S32)) × (List (List Int)))
  | 0, _, _, _, _ => none
  | k + 1, x0, x1, x2, x8 => if x8 < (mn (x0.length : Int) (x2.length : Int)) then (if 0 ≤ x8 then (if x8 < (x0.length : Int) then (if x8 < (x2.length : Int) then (if (rd x0 x8) = (rd x2 x8) then (content_Plan.l0 k x0 x1 x2 (wrap64 (x8 + 1))) else (content_Plan.j1 k x0 x1 x8)) else (none)) else (none)) else (none)) else (content_Plan.j1 k x0 x1 x8)
end
def content_Plan.f (k : Nat) (l0 : List Int) (a1 : Int) (l2 : List Int) : Option ((List (S32)) × (List (List Int))) := content_Plan.l0 k l0 a1 l2 0
theorem content_Plan.mono_l : ∀ k, (∀ y0 y1 y2, LeO (content_Plan.j1 k y0 y1 y2) (content_Plan.j1 (k + 1) y0 y1 y2)) ∧ (∀ y0 y1 y2 y3 y4, LeO (content_Plan.j2 k y0 y1 y2 y3 y4) (content_Plan.j2 (k + 1) y0 y1 y2 y3 y4)) ∧ (∀ y0 y1 y2 y3, LeO (content_Plan.j3 k y0 y1 y2 y3) (content_Plan.j3 (k + 1) y0 y1 y2 y3)) ∧ (∀ y0 y1 y2, LeO (content_Plan.j4 k y0 y1 y2) (content_Plan.j4 (k + 1) y0 y1 y2)) ∧ (∀ y0 y1 y2 y3 y4, LeO (content_Plan.l1 k y0 y1 y2 y3 y4) (content_Plan.l1 (k + 1) y0 y1 y2 y3 y4)) ∧ (∀ y0 y1 y2 y3, LeO (content_Plan.l0 k y0 y1 y2 y3) (content_Plan.l0 (k + 1) y0 y1 y2 y3))
  | 0 => ⟨fun _ _ _ r h => by simp [content_Plan.j1] at h, fun _ _ _ _ _ r h => by simp [content_Plan.j2] at h, fun _ _ _ _ r h => by simp [content_Plan.j3] at h, fun _ _ _ r h => by simp [content_Plan.j4] at h, fun _ _ _ _ _ r h => by simp [content_Plan.l1] at h, fun _ _ _ _ r h => by simp [content_Plan.l0] at h⟩
  | k + 1 => by
    obtain ⟨ih0, ih1, ih2, ih3, ih4, ih5⟩ := content_Plan.mono_l k
    refine ⟨?_, ?_, ?_, ?_, ?_, ?_⟩
    · intro y0 y1 y2
      unfold content_Plan.j1
      repeat' first
      | (with_reducible exact ih0 _ _ _)
      | (with_reducible exact ih1 _ _ _ _ _)
      | (with_reducible exact ih2 _ _ _ _)
      | (with_reducible exact ih3 _ _ _)
      | (with_reducible exact ih4 _ _ _ _ _)
      | (with_reducible exact ih5 _ _ _ _)
      | (with_reducible exact cut_Split.mono _ _)
      | (with_reducible exact key_Of.mono _ _ _)
      | (with_reducible exact LeO.refl _)
      | (with_reducible exact LeO.none _)
      | (with_reducible refine LeO.ite ?_ ?_)
      | (with_reducible refine LeO.bind ?_ (fun _ => ?_))
      | exact ih0 _ _ _
      | exact ih1 _ _ _ _ _
      | exact ih2 _ _ _ _
      | exact ih3 _ _ _
      | exact ih4 _ _ _ _ _
      | exact ih5 _ _ _ _
      | exact LeO.none _
      | refine LeO.ite ?_ ?_
      | refine LeO.bind ?_ (fun _ => ?_)
    · intro y0 y1 y2 y3 y4
      unfold content_Plan.j2
      repeat' first
      | (with_reducible exact ih0 _ _ _)
      | (with_reducible exact ih1 _ _ _ _ _)
      | (with_reducible exact ih2 _ _ _ _)
      | (with_reducible exact ih3 _ _ _)
      | (with_reducible exact ih4 _ _ _ _ _)
      | (with_reducible exact ih5 _ _ _ _)
      | (with_reducible exact cut_Split.mono _ _)
      | (with_reducible exact key_Of.mono _ _ _)
      | (with_reducible exact LeO.refl _)
      | (with_reducible exact LeO.none _)
      | (with_reducible refine LeO.ite ?_ ?_)
      | (with_reducible refine LeO.bind ?_ (fun _ => ?_))
      | exact ih0 _ _ _
      | exact ih1 _ _ _ _ _
      | exact ih2 _ _ _ _
      | exact ih3 _ _ _
      | exact ih4 _ _ _ _ _
      | exact ih5 _ _ _ _
      | exact LeO.none _
      | refine LeO.ite ?_ ?_
      | refine LeO.bind ?_ (fun _ => ?_)
    · intro y0 y1 y2 y3
      unfold content_Plan.j3
      repeat' first
      | (with_reducible exact ih0 _ _ _)
      | (with_reducible exact ih1 _ _ _ _ _)
      | (with_reducible exact ih2 _ _ _ _)
      | (with_reducible exact ih3 _ _ _)
      | (with_reducible exact ih4 _ _ _ _ _)
      | (with_reducible exact ih5 _ _ _ _)
      | (with_reducible exact cut_Split.mono _ _)
      | (with_reducible exact key_Of.mono _ _ _)
      | (with_reducible exact LeO.refl _)
      | (with_reducible exact LeO.none _)
      | (with_reducible refine LeO.ite ?_ ?_)
      | (with_reducible refine LeO.bind ?_ (fun _ => ?_))
      | exact ih0 _ _ _
      | exact ih1 _ _ _ _ _
      | exact ih2 _ _ _ _
      | exact ih3 _ _ _
      | exact ih4 _ _ _ _ _
      | exact ih5 _ _ _ _
      | exact LeO.none _
      | refine LeO.ite ?_ ?_
      | refine LeO.bind ?_ (fun _ => ?_)
    · intro y0 y1 y2
      unfold content_Plan.j4
      repeat' first
      | (with_reducible exact ih0 _ _ _)
      | (with_reducible exact ih1 _ _ _ _ _)
      | (with_reducible exact ih2 _ _ _ _)
      | (with_reducible exact ih3 _ _ _)
      | (with_reducible exact ih4 _ _ _ _ _)
      | (with_reducible exact ih5 _ _ _ _)
      | (with_reducible exact cut_Split.mono _ _)
      | (with_reducible exact key_Of.mono _ _ _)
      | (with_reducible exact LeO.refl _)
      | (with_reducible exact LeO.none _)
      | (with_reducible refine LeO.ite ?_ ?_)
      | (with_reducible refine LeO.bind ?_ (fun _ => ?_))
      | exact ih0 _ _ _
      | exact ih1 _ _ _ _ _
      | exact ih2 _ _ _ _
      | exact ih3 _ _ _
      | exact ih4 _ _ _ _ _
      | exact ih5 _ _ _ _
      | exact LeO.none _
      | refine LeO.ite ?_ ?_
      | refine LeO.bind ?_ (fun _ => ?_)
    · intro y0 y1 y2 y3 y4
      unfold content_Plan.l1
      repeat' first
      | (with_reducible exact ih0 _ _ _)
      | (with_reducible exact ih1 _ _ _ _ _)
      | (with_reducible exact ih2 _ _ _ _)
      | (with_reducible exact ih3 _ _ _)
      | (with_reducible exact ih4 _ _ _ _ _)
      | (with_reducible exact ih5 _ _ _ _)
      | (with_reducible exact cut_Split.mono _ _)
      | (with_reducible exact key_Of.mono _ _ _)
      | (with_reducible exact LeO.refl _)
      | (with_reducible exact LeO.none _)
      | (with_reducible refine LeO.ite ?_ ?_)
      | (with_reducible refine LeO.bind ?_ (fun _ => ?_))
      | exact ih0 _ _ _
      | exact ih1 _ _ _ _ _
      | exact ih2 _ _ _ _
      | exact ih3 _ _ _
      | exact ih4 _ _ _ _ _
      | exact ih5 _ _ _ _
      | exact LeO.none _
      | refine LeO.ite ?_ ?_
      | refine LeO.bind ?_ (fun _ => ?_)
    · intro y0 y1 y2 y3
      unfold content_Plan.l0
      repeat' first
      | (with_reducible exact ih0 _ _ _)
      | (with_reducible exact ih1 _ _ _ _ _)
      | (with_reducible exact ih2 _ _ _ _)
      | (with_reducible exact ih3 _ _ _)
      | (with_reducible exact ih4 _ _ _ _ _)
      | (with_reducible exact ih5 _ _ _ _)
      | (with_reducible exact cut_Split.mono _ _)
      | (with_reducible exact key_Of.mono _ _ _)
      | (with_reducible exact LeO.refl _)
      | (with_reducible exact LeO.none _)
      | (with_reducible refine LeO.ite ?_ ?_)
      | (with_reducible refine LeO.bind ?_ (fun _ => ?_))
      | exact ih0 _ _ _
      | exact ih1 _ _ _ _ _
      | exact ih2 _ _ _ _
      | exact ih3 _ _ _
      | exact ih4 _ _ _ _ _
      | exact ih5 _ _ _ _
      | exact LeO.none _
      | refine LeO.ite ?_ ?_
      | refine LeO.bind ?_ (fun _ => ?_)
theorem content_Plan.mono : ∀ a0 a1 a2 k, LeO (content_Plan.f k a0 a1 a2) (content_Plan.f (k + 1) a0 a1 a2) := by
 intro a0 a1 a2 k; obtain ⟨ih0, ih1, ih2, ih3, ih4, ih5⟩ := content_Plan.mono_l k; unfold content_Plan.f
 repeat' first
     | (with_reducible exact ih0 _ _ _)
     | (with_reducible exact ih1 _ _ _ _ _)
     | (with_reducible exact ih2 _ _ _ _)
     | (with_reducible exact ih3 _ _ _)
     | (with_reducible exact ih4 _ _ _ _ _)
     | (with_reducible exact ih5 _ _ _ _)
     | (with_reducible exact cut_Split.mono _ _)
     | (with_reducible exact key_Of.mono _ _ _)
     | (with_reducible exact LeO.refl _)
     | (with_reducible exact LeO.none _)
     | (with_reducible refine LeO.ite ?_ ?_)
     | (with_reducible refine LeO.bind ?_ (fun _ => ?_))
     | exact ih0 _ _ _
     | exact ih1 _ _ _ _ _
     | exact ih2 _ _ _ _
     | exact ih3 _ _ _
     | exact ih4 _ _ _ _ _
     | exact ih5 _ _ _ _
     | exact LeO.none _
     | refine LeO.ite ?_ ?_
     | refine LeO.bind ?_ (fun _ => ?_)
theorem content_Plan.calls (k : Nat) (A0 : Option Addr) (c0 : Nat) (l0 : List Int) (a1 : Int) (A2 : Option Addr) (c2 : Nat) (l2 : List Int) (r1 : List (S32)) (r2 : List (List Int)) (w : World) (hr0 : Kd.C (Kd.int .u8) w A0 l0.length l0) (hc0 : l0.length ≤ c0) (hr2 : Kd.C (Kd.int .u8) w A2 l2.length l2) (hc2 : l2.length ≤ c2) (h : content_Plan.f k l0 a1 l2 = some (r1, r2)) :
    Calls Try.prog 5 #[.slice A0 l0.length c0, .int .i64 a1, .slice A2 l2.length c2] w fun e w' => ∃ v0_ v1_ : Value, e = .returned (.tuple #[v0_, v1_]) ∧ Kd.R k32 32 w' w.heap.size (fun _ => True) v0_ r1 ∧ Kd.S (Kd.slice 5 (Kd.int .u8)) 22 w' w.heap.size (fun _ => True) v1_ r2 ∧ Below w.heap.size w w' := by
 have hu32 := Try.underlying32; have HR0 := aM_ hr0; have HC0 := aM_ hc0; clear hr0 hc0; have HR2 := aM_ hr2; have HC2 := aM_ hc2; clear hr2 hc2; have HB := aM_ (Below.refl w.heap.size w); have H : (content_Plan.l0 k l0 a1 l2 0) = some (r1, r2) := h; clear h; have HC4 := aM_ H; clear H; (go_enter Try.func5, Try.ntmps5); (go_upto_block 0 with (fail))
 repeat (go_quiet (fail); go_upto_block 0 with (fail))
 (go_cut [8] (fun v8 wc => ∃ (kq : Nat) (x8_3 : Int), v8 = .int .i64 x8_3 ∧ Aside0 (content_Plan.j1 kq l0 a1 x8_3 = some (r1, r2)) ∧ Aside0 (kq ≤ k) ∧ Aside0 (Below w.heap.size w wc)))
 case first =>
  have H := HC4.out; clear HC4; have H' := aM_ H; clear H; go_wp2
  repeat (go_quiet (fail); try go_wp2)
  (go_loopg [8] k (fun kq v8 w' => ∃ (x8_1 : Int), v8 = .int .i64 x8_1 ∧ Aside0 (content_Plan.l0 kq l0 a1 l2 x8_1 = some (r1, r2)) ∧ Aside0 (kq ≤ k) ∧ Aside0 (Below w.heap.size w w')))
  case atStart => exact ⟨(0), (by first | rfl | (simp; done) | (simp [*]; done)), H', ⟨Nat.le_refl _⟩, ⟨bZ0_ HB.out⟩⟩
  case round =>
   clear H'; (try clear c2); (try clear p2); obtain ⟨x8_1, rfl, HA, HK1, HB⟩ := hrel
   cases gk with
   | zero => exact absurd HA.out (by simp [content_Plan.l0])
   | succ k1 =>
    have H := HA.out; clear HA; simp only [content_Plan.l0] at H; obtain ⟨ji5, hji5⟩ : ∃ j_ : Int, (mn (l0.length : Int) (l2.length : Int)) = j_ := ⟨_, rfl⟩; (replace H : (if x8_1 < (ji5) then (if 0 ≤ x8_1 then (if x8_1 < (l0.length : Int) then (if x8_1 < (l2.length : Int) then (if (rd l0 x8_1) = (rd l2 x8_1) then (content_Plan.l0 k1 l0 a1 l2 (wrap64 (x8_1 + 1))) else (content_Plan.j1 k1 l0 a1 x8_1)) else (none)) else (none)) else (none)) else (content_Plan.j1 k1 l0 a1 x8_1)) = some (r1, r2) := by first | (rw [hji5] at H; exact H) | (simp only [hji5] at H ⊢; exact H)); have hji5_ : (if (l2.length : Int) < (l0.length : Int) then (l2.length : Int) else (l0.length : Int)) = ji5 := hji5; (try (have hji5_n := hji5_; simp only [Int.ofNat_lt] at hji5_n)); (by_cases c6 : x8_1 < (ji5))
    · rw [if_pos c6] at H
      have c6b0 : decide (x8_1 < (ji5)) = true := dT_ c6; clear c6; (first | rw [c6b0] | (simp only [i64_w, i32_w]; rw [c6b0]) | skip); (by_cases c7 : 0 ≤ x8_1)
      · rw [if_pos c7] at H
        have c7b0 : decide (0 ≤ x8_1) = true := dT_ c7; clear c7; (by_cases c8 : x8_1 < (l0.length : Int))
        · rw [if_pos c8] at H
          have c8b0 : decide (x8_1 < (l0.length : Int)) = true := dT_ c8; clear c8; (by_cases c9 : x8_1 < (l2.length : Int))
          · rw [if_pos c9] at H
            have c9b0 : decide (x8_1 < (l2.length : Int)) = true := dT_ c9; clear c9; (by_cases c10 : (rd l0 x8_1) = (rd l2 x8_1))
            · rw [if_pos c10] at H
              have c10b0 : ((rd l0 x8_1) == (rd l2 x8_1)) = true := beq_iff_eq.mpr c10; have c10b1 : ((rd l0 x8_1) != (rd l2 x8_1)) = false := bne_eq_false_iff_eq.mpr c10; clear c10; have H' := aM_ H; clear H; have p180 : 0 ≤ (x8_1 : Int) := oD_ (by assumption); have q180 : x8_1 < (l0.length : Int) := oD_ (by assumption); obtain ⟨ad180, e180, hx180_0⟩ := Kd.at_int HR0.out x8_1 p180 q180; (cases e180); replace hx180_0 := (HB.out.cell (lC_ w _ hx180_0)).trans hx180_0; replace p180 := eq_true p180; replace q180 := eq_true q180; have p181 : 0 ≤ (x8_1 : Int) := oD_ (by assumption); have q181 : x8_1 < (l2.length : Int) := oD_ (by assumption); obtain ⟨ad181, e181, hx181_0⟩ := Kd.at_int HR2.out x8_1 p181 q181; (cases e181); replace hx181_0 := (HB.out.cell (lC_ w _ hx181_0)).trans hx181_0; replace p181 := eq_true p181; replace q181 := eq_true q181; go_wp2
              repeat (go_quiet (fail); try go_wp2)
              (go_roundg k1)
              case measure => have := HK1.out; omega
              case rel => exact ⟨(wrap64 (x8_1 + 1)), (by first | rfl | (simp; done) | (simp [*]; done)), H', ⟨by have := HK1.out; omega⟩, ⟨bZ0_ HB.out⟩⟩
            · rw [if_neg c10] at H
              have c10b0 : ((rd l0 x8_1) == (rd l2 x8_1)) = false := beq_eq_false_iff_ne.mpr c10; have c10b1 : ((rd l0 x8_1) != (rd l2 x8_1)) = true := bne_iff_ne.mpr c10; have H' := aM_ H; clear H; have p180 : 0 ≤ (x8_1 : Int) := oD_ (by assumption); have q180 : x8_1 < (l0.length : Int) := oD_ (by assumption); obtain ⟨ad180, e180, hx180_0⟩ := Kd.at_int HR0.out x8_1 p180 q180; (cases e180); replace hx180_0 := (HB.out.cell (lC_ w _ hx180_0)).trans hx180_0; replace p180 := eq_true p180; replace q180 := eq_true q180; have p181 : 0 ≤ (x8_1 : Int) := oD_ (by assumption); have q181 : x8_1 < (l2.length : Int) := oD_ (by assumption); obtain ⟨ad181, e181, hx181_0⟩ := Kd.at_int HR2.out x8_1 p181 q181; (cases e181); replace hx181_0 := (HB.out.cell (lC_ w _ hx181_0)).trans hx181_0; replace p181 := eq_true p181; replace q181 := eq_true q181; go_wp2
              repeat (go_quiet (fail); try go_wp2)
              (go_meet)
              case rel => exact ⟨_, (x8_1), (by first | rfl | (simp; done) | (simp [*]; done)), H', ⟨by have := HK1.out; first | omega | exact Nat.le_refl _⟩, ⟨bZ0_ HB.out⟩⟩
          (· rw [if_neg c9] at H; exact absurd H (by simp))
        (· rw [if_neg c8] at H; exact absurd H (by simp))
      (· rw [if_neg c7] at H; exact absurd H (by simp))
    · rw [if_neg c6] at H
      have c6b0 : decide (x8_1 < (ji5)) = false := decide_eq_false c6; clear c6; (first | rw [c6b0] | (simp only [i64_w, i32_w]; rw [c6b0]) | skip); have H' := aM_ H; clear H; go_wp2
      repeat (go_quiet (fail); try go_wp2)
      (go_meet)
      case rel => exact ⟨_, (x8_1), (by first | rfl | (simp; done) | (simp [*]; done)), H', ⟨by have := HK1.out; first | omega | exact Nat.le_refl _⟩, ⟨bZ0_ HB.out⟩⟩
 case rest =>
  clear HC4; (try clear c1); (try clear p1); (try clear q1); (try clear hx1); (try clear c2); (try clear p2); (try clear c5); (try clear c6); (try clear c6b0); (try clear p6); (try clear c7); (try clear c7b0); (try clear c8); (try clear c8b0); (try clear c9); (try clear c9b0); (try clear c10); (try clear c10b0); (try clear c10b1); (try clear hx180_0); (try clear hx181_0); (try clear p180); (try clear p181); (try clear p2); (try clear q180); (try clear q181); obtain ⟨kq, x8_3, rfl, HA, HJ3, HB⟩ := hcut
  cases kq with
  | zero => exact absurd HA.out (by simp [content_Plan.j1])
  | succ kj3 =>
   have H := HA.out; clear HA; simp only [content_Plan.j1] at H; have HC11 := aM_ H; clear H; (go_upto_region 5 with (fail))
   repeat (go_quiet (fail); go_upto_region 5 with (fail))
   (go_cut [44] (fun v44 wc => ∃ (kq : Nat) (x44_10 : Bool), v44 = .bool x44_10 ∧ Aside0 (content_Plan.j2 kq l0 a1 x8_3 ([] : List (S32)) x44_10 = some (r1, r2)) ∧ Aside0 (kq ≤ kj3) ∧ Aside0 (Kd.R k32 32 wc w.heap.size (fun _ => True) (.slice none 0 0) ([] : List (S32))) ∧ Aside0 (Below w.heap.size w wc)))
   case first =>
    have H := HC11.out; clear HC11; (by_cases c12 : a1 ≤ 0)
    · rw [if_pos c12] at H
      have c12b0 : decide (a1 ≤ 0) = true := dT_ c12; clear c12; (first | rw [c12b0] | (simp only [i64_w, i32_w]; rw [c12b0]) | skip); have H' := aM_ H; clear H; go_wp2
      repeat (go_quiet (fail); try go_wp2)
      (go_meet)
      case rel => exact ⟨_, (true), (by first | rfl | (simp; done) | (simp [*]; done)), H', ⟨by have := HJ3.out; first | omega | exact Nat.le_refl _⟩, ⟨by first | exact Kd.R_nil _ _ _ _ _ | exact Kd.N_nil _ _ _ _ _ | exact Kd.V_nil _ _ _ _ _ | exact Kd.Q_nil _ _ _ _ _ | exact Kd.S_nil _ _ _ _ _⟩, ⟨bZ0_ HB.out⟩⟩
    · rw [if_neg c12] at H
      have c12b0 : decide (a1 ≤ 0) = false := decide_eq_false c12; clear c12; (first | rw [c12b0] | (simp only [i64_w, i32_w]; rw [c12b0]) | skip); (by_cases c13 : x8_3 < 512)
      · rw [if_pos c13] at H
        have c13b0 : decide (x8_3 < 512) = true := dT_ c13; clear c13; have H' := aM_ H; clear H; go_wp2
        repeat (go_quiet (fail); try go_wp2)
        (go_meet)
        case rel => exact ⟨_, (decide (x8_3 < (l0.length : Int))), (by first | rfl | (simp; done) | (simp [*]; done)), H', ⟨by have := HJ3.out; first | omega | exact Nat.le_refl _⟩, ⟨by first | exact Kd.R_nil _ _ _ _ _ | exact Kd.N_nil _ _ _ _ _ | exact Kd.V_nil _ _ _ _ _ | exact Kd.Q_nil _ _ _ _ _ | exact Kd.S_nil _ _ _ _ _⟩, ⟨bZ0_ HB.out⟩⟩
      · rw [if_neg c13] at H
        have c13b0 : decide (x8_3 < 512) = false := decide_eq_false c13; clear c13; have H' := aM_ H; clear H; go_wp2
        repeat (go_quiet (fail); try go_wp2)
        (go_meet)
        case rel => exact ⟨_, (false), (by first | rfl | (simp; done) | (simp [*]; done)), H', ⟨by have := HJ3.out; first | omega | exact Nat.le_refl _⟩, ⟨by first | exact Kd.R_nil _ _ _ _ _ | exact Kd.N_nil _ _ _ _ _ | exact Kd.V_nil _ _ _ _ _ | exact Kd.Q_nil _ _ _ _ _ | exact Kd.S_nil _ _ _ _ _⟩, ⟨bZ0_ HB.out⟩⟩
   case rest =>
    clear HC11; (try clear c1); (try clear p1); (try clear q1); (try clear hx1); (try clear c2); (try clear p2); (try clear c5); (try clear c6); (try clear c6b0); (try clear p6); (try clear c7); (try clear c7b0); (try clear c8); (try clear c8b0); (try clear c9); (try clear c9b0); (try clear c10); (try clear c10b0); (try clear c10b1); (try clear c12); (try clear c12b0); (try clear c13); (try clear c13b0); (try clear hx180_0); (try clear hx181_0); (try clear p1); (try clear p180); (try clear p181); (try clear p2); (try clear p6); (try clear q1); (try clear q180); (try clear q181); obtain ⟨kq, x44_10, rfl, HA, HJ10, HO_9, HB⟩ := hcut
    cases kq with
    | zero => exact absurd HA.out (by simp [content_Plan.j2])
    | succ kj10 =>
     have H := HA.out; clear HA; simp only [content_Plan.j2] at H; have HC14 := aM_ H; clear H; (go_upto_if 44 with (fail))
     repeat (go_quiet (fail); go_upto_if 44 with (fail))
     (go_cut [8] (fun v8 wc => ∃ (kq : Nat) (x8_13 : Int), v8 = .int .i64 x8_13 ∧ Aside0 (content_Plan.j3 kq l0 a1 x8_13 ([] : List (S32)) = some (r1, r2)) ∧ Aside0 (kq ≤ kj10) ∧ Aside0 (Kd.R k32 32 wc w.heap.size (fun _ => True) (.slice none 0 0) ([] : List (S32))) ∧ Aside0 (Below w.heap.size w wc)))
     case first =>
      have H := HC14.out; clear HC14; (by_cases c15 : x44_10 = true)
      · subst c15
        (have H1 : (content_Plan.j3 kj10 l0 a1 0 ([] : List (S32))) = some (r1, r2) := by rw [if_pos rfl] at H; exact H); clear H; have H := H1; clear H1; have H' := aM_ H; clear H; go_wp2
        repeat (go_quiet (fail); try go_wp2)
        (go_meet)
        case rel => exact ⟨_, (0), (by first | rfl | (simp; done) | (simp [*]; done)), H', ⟨by have := HJ3.out; have := HJ10.out; first | omega | exact Nat.le_refl _⟩, ⟨rZ_ HO_9.out⟩, ⟨bZ0_ HB.out⟩⟩
      · replace c15 := Bool.eq_false_iff.mpr c15
        subst c15; (have H1 : (content_Plan.j3 kj10 l0 a1 x8_3 ([] : List (S32))) = some (r1, r2) := by rw [if_neg (show ¬ (false = true) by decide)] at H; exact H); clear H; have H := H1; clear H1; have H' := aM_ H; clear H; go_wp2
        repeat (go_quiet (fail); try go_wp2)
        (go_meet)
        case rel => exact ⟨_, (x8_3), (by first | rfl | (simp; done) | (simp [*]; done)), H', ⟨by have := HJ3.out; have := HJ10.out; first | omega | exact Nat.le_refl _⟩, ⟨rZ_ HO_9.out⟩, ⟨bZ0_ HB.out⟩⟩
     case rest =>
      clear HC14; (try clear c1); (try clear p1); (try clear q1); (try clear hx1); (try clear c2); (try clear p2); (try clear c5); (try clear c6); (try clear c6b0); (try clear p6); (try clear c7); (try clear c7b0); (try clear c8); (try clear c8b0); (try clear c9); (try clear c9b0); (try clear c10); (try clear c10b0); (try clear c10b1); (try clear c12); (try clear c12b0); (try clear c13); (try clear c13b0); (try clear c15); (try clear hx180_0); (try clear hx181_0); (try clear p1); (try clear p180); (try clear p181); (try clear p2); (try clear p6); (try clear q1); (try clear q180); (try clear q181); obtain ⟨kq, x8_13, rfl, HA, HJ13, HO_9, HB⟩ := hcut
      cases kq with
      | zero => exact absurd HA.out (by simp [content_Plan.j3])
      | succ kj13 =>
       have H := HA.out; clear HA; simp only [content_Plan.j3] at H; have HC16 := aM_ H; clear H; (go_upto_if 46 with (fail))
       repeat (go_quiet (fail); go_upto_if 46 with (fail))
       (go_cut [9] (fun v9 wc => ∃ (kq : Nat) (x9_15 : List (S32)), Aside0 (content_Plan.j4 kq l0 x8_13 x9_15 = some (r1, r2)) ∧ Aside0 (kq ≤ kj13) ∧ Aside0 (Kd.R k32 32 wc w.heap.size (fun _ => True) v9 x9_15) ∧ Aside0 (Below w.heap.size w wc)))
       case first =>
        have H := HC16.out; clear HC16; (by_cases c17 : x8_13 > 0)
        · rw [if_pos c17] at H
          have c17b0 : decide (0 < x8_13) = true := dT_ c17; clear c17; (first | rw [c17b0] | (simp only [i64_w, i32_w]; rw [c17b0]) | skip); (by_cases c18 : ([] : List (S32)).length < 3518437208883)
          · rw [if_pos c18] at H
            have LMc18 := aM_ c18; clear c18; obtain ⟨y182, hy182⟩ : ∃ y_ : List (S32), y_ = (([] : List (S32)) ++ [(⟨(⟨#[]⟩ : ByteArray), a1, 0, x8_13⟩ : S32)]) := ⟨_, rfl⟩; (replace H : (content_Plan.j4 kj13 l0 x8_13 y182) = some (r1, r2) := yZ_ H hy182); have Ny182 := aM_ hy182; clear hy182; have H' := aM_ H; clear H
            go_wp2_with (first | ((with_reducible refine gate_builtin (b := .append) (xs := #[.tmp 47, .tmp 51]) rfl ?_); (try (refine gate_guard (by rfl) ?_; dsimp only)); at_builtin; refine Kd.R_append k32 (w0 := w) w.heap.size rfl (.tmp 47) (.tmp 51) 24 32 (.agg #[(.string ⟨#[]⟩), (.int .i64 0), (.int .i64 0), (.int .i64 0)]) 40 rfl Try.underlying24 info32 rfl (by decide) (by omega) (.slice none 0 0) ([] : List (S32)) (⟨(⟨#[]⟩ : ByteArray), a1, 0, x8_13⟩ : S32) [.string (⟨#[]⟩ : ByteArray), .int .i64 a1, .int .i64 0, .int .i64 x8_13] (fun _ => True) (fun _ => False) rfl rfl ?aP (fun _ hk => hk.elim) ?aF ?aO ?aB ?aS ?aL ?_; (case aP => exact k32_mkM _ _ _ (⟨(⟨#[]⟩ : ByteArray), a1, 0, x8_13⟩ : S32)); (case aB => exact (bZ0_ HB.out)); (case aF => exact (fun _ _ => trivial)); (case aO => exact (rZ_ HO_9.out)); (case aS => exact (bZ_ (bZ0_ HB.out))); (case aL => have := LMc18.out; omega); intro v183 w19 ho hb hg hat; rw [← Ny182.out] at ho; have n0_ := aM_ (hb); have n1_ := aM_ (ho); clear HB; clear HO_9; have HB := n0_; have HO184 := n1_; clear n0_ n1_; clear ho hb hg hat))
            repeat (go_quiet (first | ((with_reducible refine gate_builtin (b := .append) (xs := #[.tmp 47, .tmp 51]) rfl ?_); (try (refine gate_guard (by rfl) ?_; dsimp only)); at_builtin; refine Kd.R_append k32 (w0 := w) w.heap.size rfl (.tmp 47) (.tmp 51) 24 32 (.agg #[(.string ⟨#[]⟩), (.int .i64 0), (.int .i64 0), (.int .i64 0)]) 40 rfl Try.underlying24 info32 rfl (by decide) (by omega) (.slice none 0 0) ([] : List (S32)) (⟨(⟨#[]⟩ : ByteArray), a1, 0, x8_13⟩ : S32) [.string (⟨#[]⟩ : ByteArray), .int .i64 a1, .int .i64 0, .int .i64 x8_13] (fun _ => True) (fun _ => False) rfl rfl ?aP (fun _ hk => hk.elim) ?aF ?aO ?aB ?aS ?aL ?_; (case aP => exact k32_mkM _ _ _ (⟨(⟨#[]⟩ : ByteArray), a1, 0, x8_13⟩ : S32)); (case aB => exact (bZ0_ HB.out)); (case aF => exact (fun _ _ => trivial)); (case aO => exact (rZ_ HO_9.out)); (case aS => exact (bZ_ (bZ0_ HB.out))); (case aL => have := LMc18.out; omega); intro v183 w19 ho hb hg hat; rw [← Ny182.out] at ho; have n0_ := aM_ (hb); have n1_ := aM_ (ho); clear HB; clear HO_9; have HB := n0_; have HO184 := n1_; clear n0_ n1_; clear ho hb hg hat)); try go_wp2_with (first | ((with_reducible refine gate_builtin (b := .append) (xs := #[.tmp 47, .tmp 51]) rfl ?_); (try (refine gate_guard (by rfl) ?_; dsimp only)); at_builtin; refine Kd.R_append k32 (w0 := w) w.heap.size rfl (.tmp 47) (.tmp 51) 24 32 (.agg #[(.string ⟨#[]⟩), (.int .i64 0), (.int .i64 0), (.int .i64 0)]) 40 rfl Try.underlying24 info32 rfl (by decide) (by omega) (.slice none 0 0) ([] : List (S32)) (⟨(⟨#[]⟩ : ByteArray), a1, 0, x8_13⟩ : S32) [.string (⟨#[]⟩ : ByteArray), .int .i64 a1, .int .i64 0, .int .i64 x8_13] (fun _ => True) (fun _ => False) rfl rfl ?aP (fun _ hk => hk.elim) ?aF ?aO ?aB ?aS ?aL ?_; (case aP => exact k32_mkM _ _ _ (⟨(⟨#[]⟩ : ByteArray), a1, 0, x8_13⟩ : S32)); (case aB => exact (bZ0_ HB.out)); (case aF => exact (fun _ _ => trivial)); (case aO => exact (rZ_ HO_9.out)); (case aS => exact (bZ_ (bZ0_ HB.out))); (case aL => have := LMc18.out; omega); intro v183 w19 ho hb hg hat; rw [← Ny182.out] at ho; have n0_ := aM_ (hb); have n1_ := aM_ (ho); clear HB; clear HO_9; have HB := n0_; have HO184 := n1_; clear n0_ n1_; clear ho hb hg hat)))
            (go_meet)
            case rel => exact ⟨_, (y182), H', ⟨by have := HJ3.out; have := HJ10.out; have := HJ13.out; first | omega | exact Nat.le_refl _⟩, ⟨rZ_ HO184.out⟩, ⟨bZ0_ HB.out⟩⟩
          (· rw [if_neg c18] at H; exact absurd H (by simp))
        · rw [if_neg c17] at H
          have c17b0 : decide (0 < x8_13) = false := decide_eq_false c17; clear c17; (first | rw [c17b0] | (simp only [i64_w, i32_w]; rw [c17b0]) | skip); have H' := aM_ H; clear H; go_wp2
          repeat (go_quiet (fail); try go_wp2)
          (go_meet)
          case rel => exact ⟨_, (([] : List (S32))), H', ⟨by have := HJ3.out; have := HJ10.out; have := HJ13.out; first | omega | exact Nat.le_refl _⟩, ⟨rZ_ HO_9.out⟩, ⟨bZ0_ HB.out⟩⟩
       case rest =>
        clear HC16; (try clear c1); (try clear p1); (try clear q1); (try clear hx1); (try clear c2); (try clear p2); (try clear c5); (try clear c6); (try clear c6b0); (try clear p6); (try clear c7); (try clear c7b0); (try clear c8); (try clear c8b0); (try clear c9); (try clear c9b0); (try clear c10); (try clear c10b0); (try clear c10b1); (try clear c12); (try clear c12b0); (try clear c13); (try clear c13b0); (try clear c15); (try clear c17); (try clear c17b0); (try clear c18); (try clear p18); (try clear q18); (try clear hx18); (try clear hx180_0); (try clear hx181_0); (try clear p1); (try clear p180); (try clear p181); (try clear p2); (try clear p6); (try clear q1); (try clear q180); (try clear q181); obtain ⟨kq, x9_15, HA, HJ15, HO_9, HB⟩ := hcut
        cases kq with
        | zero => exact absurd HA.out (by simp [content_Plan.j4])
        | succ kj15 =>
         have H := HA.out; clear HA; simp only [content_Plan.j4] at H; (by_cases c20 : 0 ≤ x8_13)
         · rw [if_pos c20] at H
           have c20b0 := eq_true c20; have c20b1 : decide (0 ≤ x8_13) = true := dT_ c20; clear c20; (by_cases c21 : x8_13 ≤ (l0.length : Int))
           · rw [if_pos c21] at H
             have c21b0 := eq_true c21; have c21b1 : decide (x8_13 ≤ (l0.length : Int)) = true := dT_ c21; clear c21; replace H := Option.bind_eq_some_iff.mp H; obtain ⟨t186, A220, H⟩ := H; replace H : (content_Plan.l1 kj15 x9_15 t186 t186 (t186.length : Int) 0) = some (r1, r2) := H; have A22 := aM_ A220; clear A220; have H' := aM_ H; clear H; obtain ⟨i023, hi023, _, hsz23, _⟩ := info_parts info5; obtain ⟨A23, hcut23, hA23, hC23⟩ := print_drop_of (P := Try.prog) (Value.int .u8) 0 22 5 .i64 Try.underlying22 hi023 hsz23 A0 c0 l0 x8_13 (oD_ (by assumption)) (oD_ (by assumption)) HC0.out; have HR185 := aM_ (Kd.C_of_reads (h1 := fun _ => rfl) (hA23 _ (Kd.reads_of_C HR0.out))); have HC185 := aM_ hC23; clear hA23 hC23 hi023 hsz23
             go_wp2_with (first | (go_at_call 11; (try rw [← lD_]); (with_reducible refine (cut_Split.calls kj15 (fun k_ => k_ < w.heap.size) _ _ (l0.drop (x8_13 : Int).toNat) t186 _ ?side1 A22.out).mono ?_); (case side1 => exact Kd.V_mk HC185.out (Kd.F_below (Kd.C_F (Kd.heap_int .u8) HR185.out) (bZ0_ HB.out))); rintro e w24 ⟨v187, rfl, ho0, hb⟩; have n0_ := aM_ (Kd.R_below (rZ_ HO_9.out) hb); have n1_ := aM_ (Kd.S_lower (Kd.S_mono (ok' := fun k_ => True) ho0 (fun _ hk_ => trivial)) (bZ_ (bZ0_ HB.out))); have n2_ := aM_ (bT_ (bZ0_ HB.out) hb); clear HO_9; clear HB; have HO_9 := n0_; have HO188 := n1_; have HB := n2_; clear n0_ n1_ n2_; (try clear hb); (try clear hb2); (try clear hk); (try clear hi); (try clear ho0); obtain ⟨Ao25, co25, eo25⟩ := Kd.S_slice HO188.out; subst eo25))
             repeat (go_quiet (first | (go_at_call 11; (try rw [← lD_]); (with_reducible refine (cut_Split.calls kj15 (fun k_ => k_ < w.heap.size) _ _ (l0.drop (x8_13 : Int).toNat) t186 _ ?side1 A22.out).mono ?_); (case side1 => exact Kd.V_mk HC185.out (Kd.F_below (Kd.C_F (Kd.heap_int .u8) HR185.out) (bZ0_ HB.out))); rintro e w24 ⟨v187, rfl, ho0, hb⟩; have n0_ := aM_ (Kd.R_below (rZ_ HO_9.out) hb); have n1_ := aM_ (Kd.S_lower (Kd.S_mono (ok' := fun k_ => True) ho0 (fun _ hk_ => trivial)) (bZ_ (bZ0_ HB.out))); have n2_ := aM_ (bT_ (bZ0_ HB.out) hb); clear HO_9; clear HB; have HO_9 := n0_; have HO188 := n1_; have HB := n2_; clear n0_ n1_ n2_; (try clear hb); (try clear hb2); (try clear hk); (try clear hi); (try clear ho0); obtain ⟨Ao25, co25, eo25⟩ := Kd.S_slice HO188.out; subst eo25)); try go_wp2_with (first | (go_at_call 11; (try rw [← lD_]); (with_reducible refine (cut_Split.calls kj15 (fun k_ => k_ < w.heap.size) _ _ (l0.drop (x8_13 : Int).toNat) t186 _ ?side1 A22.out).mono ?_); (case side1 => exact Kd.V_mk HC185.out (Kd.F_below (Kd.C_F (Kd.heap_int .u8) HR185.out) (bZ0_ HB.out))); rintro e w24 ⟨v187, rfl, ho0, hb⟩; have n0_ := aM_ (Kd.R_below (rZ_ HO_9.out) hb); have n1_ := aM_ (Kd.S_lower (Kd.S_mono (ok' := fun k_ => True) ho0 (fun _ hk_ => trivial)) (bZ_ (bZ0_ HB.out))); have n2_ := aM_ (bT_ (bZ0_ HB.out) hb); clear HO_9; clear HB; have HO_9 := n0_; have HO188 := n1_; have HB := n2_; clear n0_ n1_ n2_; (try clear hb); (try clear hb2); (try clear hk); (try clear hi); (try clear ho0); obtain ⟨Ao25, co25, eo25⟩ := Kd.S_slice HO188.out; subst eo25)))
             (go_loopg [9, 59] kj15 (fun kq v9 v59 w' => ∃ (x9_5 : List (S32)) (x59_5 : Int), v59 = .int .i64 x59_5 ∧ Aside0 (content_Plan.l1 kq x9_5 t186 t186 (t186.length : Int) x59_5 = some (r1, r2)) ∧ Aside0 (kq ≤ kj15) ∧ Aside0 (Kd.R k32 32 w' w.heap.size (fun _ => True) v9 x9_5) ∧ Aside0 (Kd.S (Kd.slice 5 (Kd.int .u8)) 22 w' w.heap.size (fun _ => True) (.slice Ao25 t186.length co25) t186) ∧ Aside0 (Kd.S (Kd.slice 5 (Kd.int .u8)) 22 w' w.heap.size (fun _ => True) (.slice Ao25 t186.length co25) t186) ∧ Aside0 (Below w.heap.size w w')))
             case atStart => exact ⟨(x9_15), (0), (by first | rfl | (simp; done) | (simp [*]; done)), H', ⟨Nat.le_refl _⟩, ⟨rZ_ HO_9.out⟩, ⟨by (with_reducible repeat (first | apply Kd.S_alloc | apply Kd.S_drewN | apply Kd.S_drew)); exact HO188.out⟩, ⟨by (with_reducible repeat (first | apply Kd.S_alloc | apply Kd.S_drewN | apply Kd.S_drew)); exact HO188.out⟩, ⟨bZ0_ HB.out⟩⟩
             case round =>
              clear H'; (try clear c1); (try clear p1); (try clear q1); (try clear hx1); (try clear c2); (try clear p2); (try clear c5); (try clear c6); (try clear c6b0); (try clear p6); (try clear c7); (try clear c7b0); (try clear c8); (try clear c8b0); (try clear c9); (try clear c9b0); (try clear c10); (try clear c10b0); (try clear c10b1); (try clear c12); (try clear c12b0); (try clear c13); (try clear c13b0); (try clear c15); (try clear c17); (try clear c17b0); (try clear c18); (try clear p18); (try clear q18); (try clear hx18); (try clear c20); (try clear c20b0); (try clear c20b1); (try clear c21); (try clear c21b0); (try clear c21b1); (try clear hx180_0); (try clear hx181_0); (try clear p1); (try clear p18); (try clear p180); (try clear p181); (try clear p2); (try clear p6); (try clear q1); (try clear q18); (try clear q180); (try clear q181); obtain ⟨x9_5, x59_5, rfl, HA, HK5, HO_9, HO_10, HO_57, HB⟩ := hrel
              cases gk with
              | zero => exact absurd HA.out (by simp [content_Plan.l1])
              | succ k5 =>
               have H := HA.out; clear HA; simp only [content_Plan.l1] at H; (by_cases c26 : x59_5 < (t186.length : Int))
               · rw [if_pos c26] at H
                 have c26b0 : decide (x59_5 < (t186.length : Int)) = true := dT_ c26; clear c26; (by_cases c27 : 0 ≤ x59_5)
                 · rw [if_pos c27] at H
                   have c27b0 : decide (0 ≤ x59_5) = true := dT_ c27; clear c27; (by_cases c28 : x59_5 < (t186.length : Int))
                   · rw [if_pos c28] at H
                     have c28b0 : decide (x59_5 < (t186.length : Int)) = true := dT_ c28; clear c28; replace H := Option.bind_eq_some_iff.mp H; obtain ⟨t190, A290, H⟩ := H; replace H : (if x9_5.length < 3518437208883 then (content_Plan.l1 k5 (x9_5 ++ [(⟨t190, 0, 0, ((rd_L1 t186 x59_5).length : Int)⟩ : S32)]) t186 t186 (t186.length : Int) (wrap64 (x59_5 + 1))) else (none)) = some (r1, r2) := H; have A29 := aM_ A290; clear A290; (by_cases c30 : x9_5.length < 3518437208883)
                     · rw [if_pos c30] at H
                       have LMc30 := aM_ c30; clear c30; obtain ⟨y191, hy191⟩ : ∃ y_ : List (S32), y_ = (x9_5 ++ [(⟨t190, 0, 0, ((rd_L1 t186 x59_5).length : Int)⟩ : S32)]) := ⟨_, rfl⟩; (replace H : (content_Plan.l1 k5 y191 t186 t186 (t186.length : Int) (wrap64 (x59_5 + 1))) = some (r1, r2) := yZ_ H hy191); have Ny191 := aM_ hy191; clear hy191; have H' := aM_ H; clear H; have p189 : 0 ≤ (x59_5 : Int) := oD_ (by assumption); have q189 : x59_5 < (t186.length : Int) := oD_ (by assumption); obtain ⟨ad189, A189_0, c189_0, e189, hx189_0, hl189_0, hi189_0⟩ := at_L1 (Kd.S_reads' HO_57.out).2.2 x59_5 p189 q189; (cases e189); obtain ⟨ce189, hce189, hMe189, hcc189⟩ := Kd.S_get HO_57.out [] x59_5 p189 (by first | exact q189 | exact oD_ (by assumption) | (have e_ := (Kd.S_reads' HO_57.out).1; omega)); obtain ⟨ve189_0, rfl, ge189_0⟩ := hMe189; have hv189_0 := hcc189 0 _ rfl; rw [Nat.add_zero, show ((Kd.slice 5 (Kd.int .u8))).sz = 1 from rfl, Nat.mul_one] at hv189_0; replace hv189_0 := oJ_ (hv189_0.symm.trans hx189_0); rw [hv189_0] at ge189_0; have HL189_0 := aM_ (show Kd.R (Kd.int .u8) 5 _ _ _ _ (rd_L1 t186 x59_5) from ge189_0); clear hv189_0 ge189_0; clear hcc189 hce189; have HR189_0 := aM_ hi189_0; have HC189_0 := aM_ hl189_0; clear hi189_0 hl189_0; replace p189 := eq_true p189; replace q189 := eq_true q189
                       go_wp2_with (first | (go_at_call 12; (with_reducible refine (key_Of.calls k5 1 _ _ (rd_L1 t186 x59_5) t190 _ ?side1 ?side2 A29.out).mono ?_); (case side1 => repeat (first | exact (by repeat (first | (with_reducible exact HR189_0.out) | (with_reducible refine Kd.C_alloc ?_ _) | (with_reducible refine Kd.C_drewN ?_ _) | (with_reducible refine Kd.C_drew ?_) | exact HR189_0.out)) | (with_reducible refine Kd.C_alloc ?_ _) | (with_reducible refine Kd.C_drewN ?_ _) | (with_reducible refine Kd.C_drew ?_))); (case side2 => exact HC189_0.out); rintro e w31 ⟨rfl, hb⟩; have n0_ := aM_ (Kd.R_below (rZ_ HO_9.out) hb); have n1_ := aM_ (Kd.S_below (by (with_reducible repeat (first | apply Kd.S_alloc | apply Kd.S_drewN | apply Kd.S_drew)); exact HO_10.out) hb); have n2_ := aM_ (Kd.S_below (by (with_reducible repeat (first | apply Kd.S_alloc | apply Kd.S_drewN | apply Kd.S_drew)); exact HO_57.out) hb); have n3_ := aM_ (Kd.R_below (rZ_ HL189_0.out) hb); have n4_ := aM_ (Kd.C_below (by repeat (first | (with_reducible exact HR189_0.out) | (with_reducible refine Kd.C_alloc ?_ _) | (with_reducible refine Kd.C_drewN ?_ _) | (with_reducible refine Kd.C_drew ?_) | exact HR189_0.out)) hb); have n5_ := aM_ (bT_ (bZ0_ HB.out) hb); clear HO_9; clear HO_10; clear HO_57; clear HL189_0; clear HR189_0; clear HB; have HO_9 := n0_; have HO_10 := n1_; have HO_57 := n2_; have HL189_0 := n3_; have HR189_0 := n4_; have HB := n5_; clear n0_ n1_ n2_ n3_ n4_ n5_; (try clear hb); (try clear hb2); (try clear hk); (try clear hi)) | ((with_reducible refine gate_builtin (b := .append) (xs := #[.tmp 63, .tmp 69]) rfl ?_); (try (refine gate_guard (by rfl) ?_; dsimp only)); at_builtin; refine Kd.R_append k32 (w0 := w) w.heap.size rfl (.tmp 63) (.tmp 69) 24 32 (.agg #[(.string ⟨#[]⟩), (.int .i64 0), (.int .i64 0), (.int .i64 0)]) 40 rfl Try.underlying24 info32 rfl (by decide) (by omega) u9 x9_5 (⟨t190, 0, 0, ((rd_L1 t186 x59_5).length : Int)⟩ : S32) [.string t190, .int .i64 0, .int .i64 0, .int .i64 ((rd_L1 t186 x59_5).length : Int)] (fun _ => True) (fun _ => False) rfl rfl ?aP (fun _ hk => hk.elim) ?aF ?aO ?aB ?aS ?aL ?_; (case aP => exact k32_mkM _ _ _ (⟨t190, 0, 0, ((rd_L1 t186 x59_5).length : Int)⟩ : S32)); (case aB => exact (bZ0_ HB.out)); (case aF => exact (fun _ _ => trivial)); (case aO => exact (rZ_ HO_9.out)); (case aS => exact (bZ_ (bZ0_ HB.out))); (case aL => have := LMc30.out; omega); intro v192 w32 ho hb hg hat; rw [← Ny191.out] at ho; have n0_ := aM_ (Kd.S_over' (by (with_reducible repeat (first | apply Kd.S_alloc | apply Kd.S_drewN | apply Kd.S_drew)); exact HO_10.out) (Kd.R_typed (rZ_ HO_9.out)) (by decide) hg); have n1_ := aM_ (Kd.S_over' (by (with_reducible repeat (first | apply Kd.S_alloc | apply Kd.S_drewN | apply Kd.S_drew)); exact HO_57.out) (Kd.R_typed (rZ_ HO_9.out)) (by decide) hg); have n2_ := aM_ (Kd.R_over' (rZ_ HL189_0.out) (Kd.R_typed (rZ_ HO_9.out)) (by decide) hg); have n3_ := aM_ (hb); have n4_ := aM_ (ho); clear HO_10; clear HO_57; clear HL189_0; clear HB; clear HO_9; have HO_10 := n0_; have HO_57 := n1_; have HL189_0 := n2_; have HB := n3_; have HO193 := n4_; clear n0_ n1_ n2_ n3_ n4_; clear ho hb hg hat))
                       repeat (go_quiet (first | (go_at_call 12; (with_reducible refine (key_Of.calls k5 1 _ _ (rd_L1 t186 x59_5) t190 _ ?side1 ?side2 A29.out).mono ?_); (case side1 => repeat (first | exact (by repeat (first | (with_reducible exact HR189_0.out) | (with_reducible refine Kd.C_alloc ?_ _) | (with_reducible refine Kd.C_drewN ?_ _) | (with_reducible refine Kd.C_drew ?_) | exact HR189_0.out)) | (with_reducible refine Kd.C_alloc ?_ _) | (with_reducible refine Kd.C_drewN ?_ _) | (with_reducible refine Kd.C_drew ?_))); (case side2 => exact HC189_0.out); rintro e w31 ⟨rfl, hb⟩; have n0_ := aM_ (Kd.R_below (rZ_ HO_9.out) hb); have n1_ := aM_ (Kd.S_below (by (with_reducible repeat (first | apply Kd.S_alloc | apply Kd.S_drewN | apply Kd.S_drew)); exact HO_10.out) hb); have n2_ := aM_ (Kd.S_below (by (with_reducible repeat (first | apply Kd.S_alloc | apply Kd.S_drewN | apply Kd.S_drew)); exact HO_57.out) hb); have n3_ := aM_ (Kd.R_below (rZ_ HL189_0.out) hb); have n4_ := aM_ (Kd.C_below (by repeat (first | (with_reducible exact HR189_0.out) | (with_reducible refine Kd.C_alloc ?_ _) | (with_reducible refine Kd.C_drewN ?_ _) | (with_reducible refine Kd.C_drew ?_) | exact HR189_0.out)) hb); have n5_ := aM_ (bT_ (bZ0_ HB.out) hb); clear HO_9; clear HO_10; clear HO_57; clear HL189_0; clear HR189_0; clear HB; have HO_9 := n0_; have HO_10 := n1_; have HO_57 := n2_; have HL189_0 := n3_; have HR189_0 := n4_; have HB := n5_; clear n0_ n1_ n2_ n3_ n4_ n5_; (try clear hb); (try clear hb2); (try clear hk); (try clear hi)) | ((with_reducible refine gate_builtin (b := .append) (xs := #[.tmp 63, .tmp 69]) rfl ?_); (try (refine gate_guard (by rfl) ?_; dsimp only)); at_builtin; refine Kd.R_append k32 (w0 := w) w.heap.size rfl (.tmp 63) (.tmp 69) 24 32 (.agg #[(.string ⟨#[]⟩), (.int .i64 0), (.int .i64 0), (.int .i64 0)]) 40 rfl Try.underlying24 info32 rfl (by decide) (by omega) u9 x9_5 (⟨t190, 0, 0, ((rd_L1 t186 x59_5).length : Int)⟩ : S32) [.string t190, .int .i64 0, .int .i64 0, .int .i64 ((rd_L1 t186 x59_5).length : Int)] (fun _ => True) (fun _ => False) rfl rfl ?aP (fun _ hk => hk.elim) ?aF ?aO ?aB ?aS ?aL ?_; (case aP => exact k32_mkM _ _ _ (⟨t190, 0, 0, ((rd_L1 t186 x59_5).length : Int)⟩ : S32)); (case aB => exact (bZ0_ HB.out)); (case aF => exact (fun _ _ => trivial)); (case aO => exact (rZ_ HO_9.out)); (case aS => exact (bZ_ (bZ0_ HB.out))); (case aL => have := LMc30.out; omega); intro v192 w32 ho hb hg hat; rw [← Ny191.out] at ho; have n0_ := aM_ (Kd.S_over' (by (with_reducible repeat (first | apply Kd.S_alloc | apply Kd.S_drewN | apply Kd.S_drew)); exact HO_10.out) (Kd.R_typed (rZ_ HO_9.out)) (by decide) hg); have n1_ := aM_ (Kd.S_over' (by (with_reducible repeat (first | apply Kd.S_alloc | apply Kd.S_drewN | apply Kd.S_drew)); exact HO_57.out) (Kd.R_typed (rZ_ HO_9.out)) (by decide) hg); have n2_ := aM_ (Kd.R_over' (rZ_ HL189_0.out) (Kd.R_typed (rZ_ HO_9.out)) (by decide) hg); have n3_ := aM_ (hb); have n4_ := aM_ (ho); clear HO_10; clear HO_57; clear HL189_0; clear HB; clear HO_9; have HO_10 := n0_; have HO_57 := n1_; have HL189_0 := n2_; have HB := n3_; have HO193 := n4_; clear n0_ n1_ n2_ n3_ n4_; clear ho hb hg hat)); try go_wp2_with (first | (go_at_call 12; (with_reducible refine (key_Of.calls k5 1 _ _ (rd_L1 t186 x59_5) t190 _ ?side1 ?side2 A29.out).mono ?_); (case side1 => repeat (first | exact (by repeat (first | (with_reducible exact HR189_0.out) | (with_reducible refine Kd.C_alloc ?_ _) | (with_reducible refine Kd.C_drewN ?_ _) | (with_reducible refine Kd.C_drew ?_) | exact HR189_0.out)) | (with_reducible refine Kd.C_alloc ?_ _) | (with_reducible refine Kd.C_drewN ?_ _) | (with_reducible refine Kd.C_drew ?_))); (case side2 => exact HC189_0.out); rintro e w31 ⟨rfl, hb⟩; have n0_ := aM_ (Kd.R_below (rZ_ HO_9.out) hb); have n1_ := aM_ (Kd.S_below (by (with_reducible repeat (first | apply Kd.S_alloc | apply Kd.S_drewN | apply Kd.S_drew)); exact HO_10.out) hb); have n2_ := aM_ (Kd.S_below (by (with_reducible repeat (first | apply Kd.S_alloc | apply Kd.S_drewN | apply Kd.S_drew)); exact HO_57.out) hb); have n3_ := aM_ (Kd.R_below (rZ_ HL189_0.out) hb); have n4_ := aM_ (Kd.C_below (by repeat (first | (with_reducible exact HR189_0.out) | (with_reducible refine Kd.C_alloc ?_ _) | (with_reducible refine Kd.C_drewN ?_ _) | (with_reducible refine Kd.C_drew ?_) | exact HR189_0.out)) hb); have n5_ := aM_ (bT_ (bZ0_ HB.out) hb); clear HO_9; clear HO_10; clear HO_57; clear HL189_0; clear HR189_0; clear HB; have HO_9 := n0_; have HO_10 := n1_; have HO_57 := n2_; have HL189_0 := n3_; have HR189_0 := n4_; have HB := n5_; clear n0_ n1_ n2_ n3_ n4_ n5_; (try clear hb); (try clear hb2); (try clear hk); (try clear hi)) | ((with_reducible refine gate_builtin (b := .append) (xs := #[.tmp 63, .tmp 69]) rfl ?_); (try (refine gate_guard (by rfl) ?_; dsimp only)); at_builtin; refine Kd.R_append k32 (w0 := w) w.heap.size rfl (.tmp 63) (.tmp 69) 24 32 (.agg #[(.string ⟨#[]⟩), (.int .i64 0), (.int .i64 0), (.int .i64 0)]) 40 rfl Try.underlying24 info32 rfl (by decide) (by omega) u9 x9_5 (⟨t190, 0, 0, ((rd_L1 t186 x59_5).length : Int)⟩ : S32) [.string t190, .int .i64 0, .int .i64 0, .int .i64 ((rd_L1 t186 x59_5).length : Int)] (fun _ => True) (fun _ => False) rfl rfl ?aP (fun _ hk => hk.elim) ?aF ?aO ?aB ?aS ?aL ?_; (case aP => exact k32_mkM _ _ _ (⟨t190, 0, 0, ((rd_L1 t186 x59_5).length : Int)⟩ : S32)); (case aB => exact (bZ0_ HB.out)); (case aF => exact (fun _ _ => trivial)); (case aO => exact (rZ_ HO_9.out)); (case aS => exact (bZ_ (bZ0_ HB.out))); (case aL => have := LMc30.out; omega); intro v192 w32 ho hb hg hat; rw [← Ny191.out] at ho; have n0_ := aM_ (Kd.S_over' (by (with_reducible repeat (first | apply Kd.S_alloc | apply Kd.S_drewN | apply Kd.S_drew)); exact HO_10.out) (Kd.R_typed (rZ_ HO_9.out)) (by decide) hg); have n1_ := aM_ (Kd.S_over' (by (with_reducible repeat (first | apply Kd.S_alloc | apply Kd.S_drewN | apply Kd.S_drew)); exact HO_57.out) (Kd.R_typed (rZ_ HO_9.out)) (by decide) hg); have n2_ := aM_ (Kd.R_over' (rZ_ HL189_0.out) (Kd.R_typed (rZ_ HO_9.out)) (by decide) hg); have n3_ := aM_ (hb); have n4_ := aM_ (ho); clear HO_10; clear HO_57; clear HL189_0; clear HB; clear HO_9; have HO_10 := n0_; have HO_57 := n1_; have HL189_0 := n2_; have HB := n3_; have HO193 := n4_; clear n0_ n1_ n2_ n3_ n4_; clear ho hb hg hat)))
                       (go_roundg k5)
                       case measure => have := HJ3.out; have := HJ10.out; have := HJ13.out; have := HJ15.out; have := HK5.out; omega
                       case rel => exact ⟨(y191), (wrap64 (x59_5 + 1)), (by first | rfl | (simp; done) | (simp [*]; done)), H', ⟨by have := HJ3.out; have := HJ10.out; have := HJ13.out; have := HJ15.out; have := HK5.out; omega⟩, ⟨rZ_ HO193.out⟩, ⟨by (with_reducible repeat (first | apply Kd.S_alloc | apply Kd.S_drewN | apply Kd.S_drew)); exact HO_10.out⟩, ⟨by (with_reducible repeat (first | apply Kd.S_alloc | apply Kd.S_drewN | apply Kd.S_drew)); exact HO_57.out⟩, ⟨bZ0_ HB.out⟩⟩
                     (· rw [if_neg c30] at H; exact absurd H (by simp))
                   (· rw [if_neg c28] at H; exact absurd H (by simp))
                 (· rw [if_neg c27] at H; exact absurd H (by simp))
               · rw [if_neg c26] at H
                 have c26b0 : decide (x59_5 < (t186.length : Int)) = false := decide_eq_false c26; clear c26; simp only [oI_, pI_] at H; obtain ⟨rfl, rfl⟩ := H; go_wp2
                 repeat (go_quiet (fail); try go_wp2)
                 (go_ret2); (exact ⟨_, _, by first | rfl | (simp [errW_none, errW_some] <;> rfl) | (simp [*, errW_none, errW_some] <;> rfl), by exact rZ_ HO_9.out, by (with_reducible repeat (first | apply Kd.S_alloc | apply Kd.S_drewN | apply Kd.S_drew)); exact HO_10.out, by exact bZ0_ HB.out⟩)
           (· rw [if_neg c21] at H; exact absurd H (by simp))
         (· rw [if_neg c20] at H; exact absurd H (by simp))
def api_Key.l0 : Nat → List ByteArray → ByteArray → Int → Int → Option (Int)
  | 0, _, _, _, _ => none
  | k + 1, x0, x1, x7, x8 => if x8 < x7 then (if 0 ≤ x8 then (if x8 < (x0.length : Int) then (if x1.toList = (rdOf ByteArray.empty x0 x8).toList then (some x8) else (api_Key.l0 k x0 x1 x7 (wrap64 (x8 + 1)))) else (none)) else (none)) else (some (-1))
def api_Key.f (k : Nat) (l0 : List ByteArray) (a1 : ByteArray) : Option (Int) := api_Key.l0 k l0 a1 (l0.length : Int) 0
theorem api_Key.mono_l : ∀ k, (∀ y0 y1 y2 y3, LeO (api_Key.l0 k y0 y1 y2 y3) (api_Key.l0 (k + 1) y0 y1 y2 y3))
  | 0 => fun _ _ _ _ r h => by simp [api_Key.l0] at h
  | k + 1 => by
    have ih0 := api_Key.mono_l k
    · intro y0 y1 y2 y3
      unfold api_Key.l0
      repeat' first
      | (with_reducible exact ih0 _ _ _ _)
      | (with_reducible exact LeO.refl _)
      | (with_reducible exact LeO.none _)
      | (with_reducible refine LeO.ite ?_ ?_)
      | (with_reducible refine LeO.bind ?_ (fun _ => ?_))
      | exact ih0 _ _ _ _
      | exact LeO.none _
      | refine LeO.ite ?_ ?_
      | refine LeO.bind ?_ (fun _ => ?_)
theorem api_Key.mono : ∀ a0 a1 k, LeO (api_Key.f k a0 a1) (api_Key.f (k + 1) a0 a1) := by
 intro a0 a1 k; have ih0 := api_Key.mono_l k; unfold api_Key.f
 repeat' first
     | (with_reducible exact ih0 _ _ _ _)
     | (with_reducible exact LeO.refl _)
     | (with_reducible exact LeO.none _)
     | (with_reducible refine LeO.ite ?_ ?_)
     | (with_reducible refine LeO.bind ?_ (fun _ => ?_))
     | exact ih0 _ _ _ _
     | exact LeO.none _
     | refine LeO.ite ?_ ?_
     | refine LeO.bind ?_ (fun _ => ?_)
theorem api_Key.calls (k : Nat) (A0 : Option Addr) (c0 : Nat) (l0 : List ByteArray) (a1 : ByteArray) (r : Int) (w : World) (hr0 : Kd.C Kd.string w A0 l0.length l0) (hc0 : l0.length ≤ c0) (h : api_Key.f k l0 a1 = some r) :
    Calls Try.prog 56 #[.slice A0 l0.length c0, .string a1] w fun e w' => e = .returned (.int .i64 r) ∧ Drawn0 w w' := by
 have HR0 := aM_ hr0; have HC0 := aM_ hc0; clear hr0 hc0; have H : (api_Key.l0 k l0 a1 (l0.length : Int) 0) = some r := h; clear h; have H' := aM_ H; clear H; (go_enter Try.func56, Try.ntmps56); go_wp2; (go_loopg [8] k (fun kq v8 w' => ∃ (x8_1 : Int), v8 = .int .i64 x8_1 ∧ Aside0 (api_Key.l0 kq l0 a1 (l0.length : Int) x8_1 = some r) ∧ Aside0 (kq ≤ k) ∧ Drawn0 w w'))
 case atStart => exact ⟨(0), (by first | rfl | (simp; done) | (simp [*]; done)), H', ⟨Nat.le_refl _⟩, by repeat (first | exact Drawn0.refl _ | apply Drawn0.step)⟩
 case round =>
  clear H'; (try clear p2); obtain ⟨x8_1, rfl, HA, HK1, ⟨m1, rfl⟩⟩ := hrel
  cases gk with
  | zero => exact absurd HA.out (by simp [api_Key.l0])
  | succ k1 =>
   have H := HA.out; clear HA; simp only [api_Key.l0] at H; (by_cases c3 : x8_1 < (l0.length : Int))
   · rw [if_pos c3] at H
     have c3b0 : decide (x8_1 < (l0.length : Int)) = true := dT_ c3; clear c3; (by_cases c4 : 0 ≤ x8_1)
     · rw [if_pos c4] at H
       have c4b0 : decide (0 ≤ x8_1) = true := dT_ c4; clear c4; (by_cases c5 : x8_1 < (l0.length : Int))
       · rw [if_pos c5] at H
         have c5b0 : decide (x8_1 < (l0.length : Int)) = true := dT_ c5; clear c5; (by_cases c6 : a1.toList = (rdOf ByteArray.empty l0 x8_1).toList); (· rw [if_pos c6] at H; have c6b0 : (a1.toList == (rdOf ByteArray.empty l0 x8_1).toList) = true := beq_iff_eq.mpr c6; have c6b1 : (a1.toList != (rdOf ByteArray.empty l0 x8_1).toList) = false := bne_eq_false_iff_eq.mpr c6; clear c6; obtain rfl := oJ_ H; simp only [oI_, pI_] at H; obtain ⟨rfl⟩ := H; have p194 : 0 ≤ (x8_1 : Int) := oD_ (by assumption); have q194 : x8_1 < (l0.length : Int) := oD_ (by assumption); obtain ⟨ad194, e194, hx194_0⟩ := Kd.at_string HR0.out x8_1 p194 q194; (cases e194); replace p194 := eq_true p194; replace q194 := eq_true q194; go_wp2; go_ret; exact ⟨by first | rfl | (simp; done) | (simp [*]; done), by repeat (first | exact Drawn0.refl _ | apply Drawn0.step)⟩)
         · rw [if_neg c6] at H
           have c6b0 : (a1.toList == (rdOf ByteArray.empty l0 x8_1).toList) = false := beq_eq_false_iff_ne.mpr c6; have c6b1 : (a1.toList != (rdOf ByteArray.empty l0 x8_1).toList) = true := bne_iff_ne.mpr c6; have H' := aM_ H; clear H; have p194 : 0 ≤ (x8_1 : Int) := oD_ (by assumption); have q194 : x8_1 < (l0.length : Int) := oD_ (by assumption); obtain ⟨ad194, e194, hx194_0⟩ := Kd.at_string HR0.out x8_1 p194 q194; (cases e194); replace p194 := eq_true p194; replace q194 := eq_true q194; go_wp2; (go_roundg k1)
           case measure => have := HK1.out; omega
           case rel => exact ⟨(wrap64 (x8_1 + 1)), (by first | rfl | (simp; done) | (simp [*]; done)), H', ⟨by have := HK1.out; omega⟩, by repeat (first | exact Drawn0.refl _ | apply Drawn0.step)⟩
       (· rw [if_neg c5] at H; exact absurd H (by simp))
     (· rw [if_neg c4] at H; exact absurd H (by simp))
   (· rw [if_neg c3] at H; have c3b0 : decide (x8_1 < (l0.length : Int)) = false := decide_eq_false c3; clear c3; obtain rfl := oJ_ H; simp only [oI_, pI_] at H; obtain ⟨rfl⟩ := H; go_wp2; go_ret; exact ⟨by first | rfl | (simp; done) | (simp [*]; done), by repeat (first | exact Drawn0.refl _ | apply Drawn0.step)⟩)
end Go.Proofs.Ytjjbofbkpmabbaa.Fn
