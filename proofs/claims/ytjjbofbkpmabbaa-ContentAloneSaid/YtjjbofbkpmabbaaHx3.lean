import Derived.Test.YtjjbofbkpmabbaaHx0
import Derived.Test.YtjjbofbkpmabbaaHx2
namespace Go.Proofs.Ytjjbofbkpmabbaa.Fn
set_option maxHeartbeats 8000000
set_option maxRecDepth 100000
open Go.RowKit Go.Proofs.YtjjbofbkpmabbaaW.PrintWords Go.Proofs.YtjjbofbkpmabbaaW.PrintLast Go.Proofs.YtjjbofbkpmabbaaW.PrintMore
attribute [local go_sem] max2_int min2_int max_two min_two max_three min_three max_four min_four
set_option linter.unusedVariables false
set_option linter.unusedSimpArgs false
def sha_root.l0 : Nat → Int → Bool → Int → Int → Option (Int)
  | 0, _, _, _, _ => none
  | k + 1, x0, x1, x5, x6 => if x6 ≥ 0 then (if 0 ≤ x6 then ((sha_less.f (Go.bits .or .u64 x5 (shl .u64 1 x6)) x0 x1).bind fun t118 => (if t118 = true then (sha_root.l0 k x0 x1 (Go.bits .or .u64 x5 (shl .u64 1 x6)) (wrap64 (x6 - 1))) else (sha_root.l0 k x0 x1 x5 (wrap64 (x6 - 1))))) else (none)) else (some ((x5) % 4294967296))
def sha_root.f (k : Nat) (a0 : Int) (a1 : Bool) : Option (Int) := sha_root.l0 k a0 a1 0 37
theorem sha_root.mono_l : ∀ k, (∀ y0 y1 y2 y3, LeO (sha_root.l0 k y0 y1 y2 y3) (sha_root.l0 (k + 1) y0 y1 y2 y3))
  | 0 => fun _ _ _ _ r h => by simp [sha_root.l0] at h
  | k + 1 => by
    have ih0 := sha_root.mono_l k
    · intro y0 y1 y2 y3
      unfold sha_root.l0
      repeat' first
      | (with_reducible exact ih0 _ _ _ _)
      | (with_reducible exact LeO.refl _)
      | (with_reducible exact LeO.none _)
      | (with_reducible refine LeO.ite ?_ ?_)
      | (with_reducible refine LeO.bind ?_ (fun _ => ?_))
      | exact ih0 _ _ _ _
      | exact LeO.none _
      | refine LeO.ite ?_ ?_
      | refine LeO.bind ?_ (fun _ => ?_)
theorem sha_root.mono : ∀ a0 a1 k, LeO (sha_root.f k a0 a1) (sha_root.f (k + 1) a0 a1) := by
 intro a0 a1 k; have ih0 := sha_root.mono_l k; unfold sha_root.f
 repeat' first
     | (with_reducible exact ih0 _ _ _ _)
     | (with_reducible exact LeO.refl _)
     | (with_reducible exact LeO.none _)
     | (with_reducible refine LeO.ite ?_ ?_)
     | (with_reducible refine LeO.bind ?_ (fun _ => ?_))
     | exact ih0 _ _ _ _
     | exact LeO.none _
     | refine LeO.ite ?_ ?_
     | refine LeO.bind ?_ (fun _ => ?_)
theorem sha_root.calls (k : Nat) (a0 : Int) (a1 : Bool) (r : Int) (w : World) (h : sha_root.f k a0 a1 = some r) :
    Calls Try.prog 36 #[.int .u64 a0, .bool a1] w fun e w' => e = .returned (.int .u32 r) ∧ Drawn0 w w' := by
 have H : (sha_root.l0 k a0 a1 0 37) = some r := h; clear h; have H' := aM_ H; clear H; (go_enter Try.func36, Try.ntmps36); go_wp2; (go_loopg [5, 6] k (fun kq v5 v6 w' => ∃ (x5_1 : Int) (x6_1 : Int), v5 = .int .u64 x5_1 ∧ v6 = .int .i64 x6_1 ∧ Aside0 (sha_root.l0 kq a0 a1 x5_1 x6_1 = some r) ∧ Aside0 (kq ≤ k) ∧ Drawn0 w w'))
 case atStart => exact ⟨(0), (37), (by first | rfl | (simp; done) | (simp [*]; done)), (by first | rfl | (simp; done) | (simp [*]; done)), H', ⟨Nat.le_refl _⟩, by repeat (first | exact Drawn0.refl _ | apply Drawn0.step)⟩
 case round =>
  clear H'; (try clear p2); obtain ⟨x5_1, x6_1, rfl, rfl, HA, HK1, ⟨m1, rfl⟩⟩ := hrel
  cases gk with
  | zero => exact absurd HA.out (by simp [sha_root.l0])
  | succ k1 =>
   have H := HA.out; clear HA; simp only [sha_root.l0] at H; (by_cases c3 : x6_1 ≥ 0)
   · rw [if_pos c3] at H
     have c3b0 : decide (0 ≤ x6_1) = true := dT_ c3; clear c3; (by_cases c4 : 0 ≤ x6_1)
     · rw [if_pos c4] at H
       have c4b0 := eq_true c4; have c4b1 : decide (0 ≤ x6_1) = true := dT_ c4; clear c4; obtain ⟨ji5, hji5⟩ : ∃ j_ : Int, (shl .u64 1 x6_1) = j_ := ⟨_, rfl⟩; (replace H : ((sha_less.f (Go.bits .or .u64 x5_1 (ji5)) a0 a1).bind fun t118 => (if t118 = true then (sha_root.l0 k1 a0 a1 (Go.bits .or .u64 x5_1 (ji5)) (wrap64 (x6_1 - 1))) else (sha_root.l0 k1 a0 a1 x5_1 (wrap64 (x6_1 - 1))))) = some r := by first | (rw [hji5] at H; exact H) | (simp only [hji5] at H ⊢; exact H)); have hji5_ : (IntKind.u64.wrap (1 * 2 ^ min x6_1.toNat 64)) = ji5 := hji5; have hji5z : x6_1 ≤ 64 → (IntKind.u64.wrap (1 * 2 ^ x6_1.toNat)) = ji5 := shl_small hji5; (have hji5u : (IntKind.u64.wrap (2 ^ min x6_1.toNat 64)) = ji5 := by have h_ := hji5_; rw [Int.one_mul] at h_; exact h_); (have hji5v : x6_1 ≤ 64 → (IntKind.u64.wrap (2 ^ x6_1.toNat)) = ji5 := fun hle_ => by have h_ := hji5z hle_; rw [Int.one_mul] at h_; exact h_); replace H := Option.bind_eq_some_iff.mp H; obtain ⟨t118, A60, H⟩ := H; replace H : (if t118 = true then (sha_root.l0 k1 a0 a1 (Go.bits .or .u64 x5_1 (ji5)) (wrap64 (x6_1 - 1))) else (sha_root.l0 k1 a0 a1 x5_1 (wrap64 (x6_1 - 1)))) = some r := H; have A6 := aM_ A60; clear A60; (by_cases c7 : t118 = true)
       · subst c7
         (have H1 : (sha_root.l0 k1 a0 a1 (Go.bits .or .u64 x5_1 (ji5)) (wrap64 (x6_1 - 1))) = some r := by rw [if_pos rfl] at H; exact H); clear H; have H := H1; clear H1; have H' := aM_ H; clear H; (go_wp2_with (first | ((with_reducible refine gate_callee (f := 52) rfl ?_); refine goesL_ (some 19) rfl rfl Try.func52 (by kernel_rfl) rfl #[.int .u64 (Go.bits .or .u64 x5_1 (ji5)), .int .u64 a0, .bool a1] rfl (by (try simp only [mA_, mC_, mN_]); first | done | (simp only [hji5]; rfl) | rfl | (simp only [lD_, lT_]; rfl)) ?_; (with_reducible refine (sha_less.calls (Go.bits .or .u64 x5_1 (ji5)) a0 a1 true _ A6.out).mono ?_); rintro e w' ⟨rfl, ⟨nd, rfl⟩⟩; refine ⟨_, rfl, ?_⟩))); (go_roundg k1)
         case measure => have := HK1.out; omega
         case rel => exact ⟨(Go.bits .or .u64 x5_1 (ji5)), (wrap64 (x6_1 - 1)), (by first | rfl | (simp; done) | (simp only [← hji5] <;> (first | rfl | simp)) | (simp [*]; done)), (by first | rfl | (simp; done) | (simp [*]; done)), H', ⟨by have := HK1.out; omega⟩, by repeat (first | exact Drawn0.refl _ | apply Drawn0.step)⟩
       · replace c7 := Bool.eq_false_iff.mpr c7
         subst c7; (have H1 : (sha_root.l0 k1 a0 a1 x5_1 (wrap64 (x6_1 - 1))) = some r := by rw [if_neg (show ¬ (false = true) by decide)] at H; exact H); clear H; have H := H1; clear H1; have H' := aM_ H; clear H; (go_wp2_with (first | ((with_reducible refine gate_callee (f := 52) rfl ?_); refine goesL_ (some 19) rfl rfl Try.func52 (by kernel_rfl) rfl #[.int .u64 (Go.bits .or .u64 x5_1 (ji5)), .int .u64 a0, .bool a1] rfl (by (try simp only [mA_, mC_, mN_]); first | done | (simp only [hji5]; rfl) | rfl | (simp only [lD_, lT_]; rfl)) ?_; (with_reducible refine (sha_less.calls (Go.bits .or .u64 x5_1 (ji5)) a0 a1 false _ A6.out).mono ?_); rintro e w' ⟨rfl, ⟨nd, rfl⟩⟩; refine ⟨_, rfl, ?_⟩))); (go_roundg k1)
         case measure => have := HK1.out; omega
         case rel => exact ⟨(x5_1), (wrap64 (x6_1 - 1)), (by first | rfl | (simp; done) | (simp [*]; done)), (by first | rfl | (simp; done) | (simp [*]; done)), H', ⟨by have := HK1.out; omega⟩, by repeat (first | exact Drawn0.refl _ | apply Drawn0.step)⟩
     (· rw [if_neg c4] at H; exact absurd H (by simp))
   (· rw [if_neg c3] at H; have c3b0 : decide (0 ≤ x6_1) = false := decide_eq_false c3; clear c3; obtain rfl := oJ_ H; simp only [oI_, pI_] at H; obtain ⟨rfl⟩ := H; go_wp2; go_ret; exact ⟨by first | rfl | (simp; done) | (simp [*]; done), by repeat (first | exact Drawn0.refl _ | apply Drawn0.step)⟩)
end Go.Proofs.Ytjjbofbkpmabbaa.Fn
