import Derived.Test.YtjjbofbkpmabbaaHx0
namespace Go.Proofs.Ytjjbofbkpmabbaa.Fn
set_option maxHeartbeats 8000000
set_option maxRecDepth 100000
open Go.RowKit Go.Proofs.YtjjbofbkpmabbaaW.PrintWords Go.Proofs.YtjjbofbkpmabbaaW.PrintLast Go.Proofs.YtjjbofbkpmabbaaW.PrintMore
attribute [local go_sem] max2_int min2_int max_two min_two max_three min_three max_four min_four
set_option linter.unusedVariables false
set_option linter.unusedSimpArgs false
def q06_Lists.l0 : Nat → List (List Int) → List (List Int) → Int → Option (Bool)
  | 0, _, _, _ => none
  | k + 1, x0, x1, x5 => if x5 < (x0.length : Int) then (if 0 ≤ x5 then (if x5 < (x1.length : Int) then (if (strOfNums (rd_L1 x0 x5)).toList = (strOfNums (rd_L1 x1 x5)).toList then (q06_Lists.l0 k x0 x1 (wrap64 (x5 + 1))) else (some false)) else (none)) else (none)) else (some true)
def q06_Lists.f (k : Nat) (l0 : List (List Int)) (l1 : List (List Int)) : Option (Bool) := if (l0.length : Int) = (l1.length : Int) then (q06_Lists.l0 k l0 l1 0) else (some false)
theorem q06_Lists.mono_l : ∀ k, (∀ y0 y1 y2, LeO (q06_Lists.l0 k y0 y1 y2) (q06_Lists.l0 (k + 1) y0 y1 y2))
  | 0 => fun _ _ _ r h => by simp [q06_Lists.l0] at h
  | k + 1 => by
    have ih0 := q06_Lists.mono_l k
    · intro y0 y1 y2
      unfold q06_Lists.l0
      repeat' first
      | (with_reducible exact ih0 _ _ _)
      | (with_reducible exact LeO.refl _)
      | (with_reducible exact LeO.none _)
      | (with_reducible refine LeO.ite ?_ ?_)
      | (with_reducible refine LeO.bind ?_ (fun _ => ?_))
      | exact ih0 _ _ _
      | exact LeO.none _
      | refine LeO.ite ?_ ?_
      | refine LeO.bind ?_ (fun _ => ?_)
theorem q06_Lists.mono : ∀ a0 a1 k, LeO (q06_Lists.f k a0 a1) (q06_Lists.f (k + 1) a0 a1) := by
 intro a0 a1 k; have ih0 := q06_Lists.mono_l k; unfold q06_Lists.f
 repeat' first
     | (with_reducible exact ih0 _ _ _)
     | (with_reducible exact LeO.refl _)
     | (with_reducible exact LeO.none _)
     | (with_reducible refine LeO.ite ?_ ?_)
     | (with_reducible refine LeO.bind ?_ (fun _ => ?_))
     | exact ih0 _ _ _
     | exact LeO.none _
     | refine LeO.ite ?_ ?_
     | refine LeO.bind ?_ (fun _ => ?_)
theorem q06_Lists.calls (k : Nat) (A0 : Option Addr) (c0 : Nat) (l0 : List (List Int)) (A1 : Option Addr) (c1 : Nat) (l1 : List (List Int)) (r : Bool) (w : World) (hr0 : Kd.C (Kd.slice 5 (Kd.int .u8)) w A0 l0.length l0) (hc0 : l0.length ≤ c0) (hr1 : Kd.C (Kd.slice 5 (Kd.int .u8)) w A1 l1.length l1) (hc1 : l1.length ≤ c1) (h : q06_Lists.f k l0 l1 = some r) :
    Calls Try.prog 6 #[.slice A0 l0.length c0, .slice A1 l1.length c1] w fun e w' => e = .returned (.bool r) ∧ Drawn0 w w' := by
 have HR0 := aM_ hr0; have HC0 := aM_ hc0; clear hr0 hc0; have HR1 := aM_ hr1; have HC1 := aM_ hc1; clear hr1 hc1; have H : (if (l0.length : Int) = (l1.length : Int) then (q06_Lists.l0 k l0 l1 0) else (some false)) = some r := h; clear h; (by_cases c3 : (l0.length : Int) = (l1.length : Int))
 · rw [if_pos c3] at H
   have c3b0 : ((l0.length : Int) == (l1.length : Int)) = true := beq_iff_eq.mpr c3; have c3b1 : ((l0.length : Int) != (l1.length : Int)) = false := bne_eq_false_iff_eq.mpr c3; (have c3b2 : (l0.length == l1.length) = true := by first | simpa using c3 | (simp at c3 ⊢; omega)); clear c3; have H' := aM_ H; clear H; (go_enter Try.func6, Try.ntmps6); go_wp2
   repeat (go_quiet (fail); try go_wp2)
   (go_loopg [5] k (fun kq v5 w' => ∃ (x5_1 : Int), v5 = .int .i64 x5_1 ∧ Aside0 (q06_Lists.l0 kq l0 l1 x5_1 = some r) ∧ Aside0 (kq ≤ k) ∧ Drawn0 w w'))
   case atStart => exact ⟨(0), (by first | rfl | (simp; done) | (simp [*]; done)), H', ⟨Nat.le_refl _⟩, by repeat (first | exact Drawn0.refl _ | apply Drawn0.step)⟩
   case round =>
    clear H'; (try clear c1); (try clear p2); (try clear c3); (try clear c3b0); (try clear c3b1); (try clear c3b2); obtain ⟨x5_1, rfl, HA, HK1, ⟨m1, rfl⟩⟩ := hrel
    cases gk with
    | zero => exact absurd HA.out (by simp [q06_Lists.l0])
    | succ k1 =>
     have H := HA.out; clear HA; simp only [q06_Lists.l0] at H; (by_cases c4 : x5_1 < (l0.length : Int))
     · rw [if_pos c4] at H
       have c4b0 : decide (x5_1 < (l0.length : Int)) = true := dT_ c4; clear c4; (by_cases c5 : 0 ≤ x5_1)
       · rw [if_pos c5] at H
         have c5b0 : decide (0 ≤ x5_1) = true := dT_ c5; clear c5; (by_cases c6 : x5_1 < (l1.length : Int))
         · rw [if_pos c6] at H
           have c6b0 : decide (x5_1 < (l1.length : Int)) = true := dT_ c6; clear c6; (by_cases c7 : (strOfNums (rd_L1 l0 x5_1)).toList = (strOfNums (rd_L1 l1 x5_1)).toList)
           · rw [if_pos c7] at H
             have c7b0 : ((strOfNums (rd_L1 l0 x5_1)).toList == (strOfNums (rd_L1 l1 x5_1)).toList) = true := beq_iff_eq.mpr c7; have c7b1 : ((strOfNums (rd_L1 l0 x5_1)).toList != (strOfNums (rd_L1 l1 x5_1)).toList) = false := bne_eq_false_iff_eq.mpr c7; clear c7; have H' := aM_ H; clear H; have p209 : 0 ≤ (x5_1 : Int) := oD_ (by assumption); have q209 : x5_1 < (l0.length : Int) := oD_ (by assumption); obtain ⟨ad209, A209_0, c209_0, e209, hx209_0, hl209_0, hi209_0⟩ := at_L1 HR0.out x5_1 p209 q209; (cases e209); have HR209_0 := aM_ hi209_0; have HC209_0 := aM_ hl209_0; clear hi209_0 hl209_0; replace p209 := eq_true p209; replace q209 := eq_true q209; have hcv8 := Kd.C_string (P := Try.prog) (A := A209_0) (c := c209_0) Try.underlying22 Try.underlying5 Try.underlying9 HR209_0.out; have hcv8n := fun n_ => Kd.C_string (P := Try.prog) (A := A209_0) (c := c209_0) Try.underlying22 Try.underlying5 Try.underlying9 (Kd.C_drewN HR209_0.out n_); have p210 : 0 ≤ (x5_1 : Int) := oD_ (by assumption); have q210 : x5_1 < (l1.length : Int) := oD_ (by assumption); obtain ⟨ad210, A210_0, c210_0, e210, hx210_0, hl210_0, hi210_0⟩ := at_L1 HR1.out x5_1 p210 q210; (cases e210); have HR210_0 := aM_ hi210_0; have HC210_0 := aM_ hl210_0; clear hi210_0 hl210_0; replace p210 := eq_true p210; replace q210 := eq_true q210; have hcv9 := Kd.C_string (P := Try.prog) (A := A210_0) (c := c210_0) Try.underlying22 Try.underlying5 Try.underlying9 HR210_0.out; have hcv9n := fun n_ => Kd.C_string (P := Try.prog) (A := A210_0) (c := c210_0) Try.underlying22 Try.underlying5 Try.underlying9 (Kd.C_drewN HR210_0.out n_); go_wp2
             repeat (go_quiet (fail); try go_wp2)
             (go_roundg k1)
             case measure => have := HK1.out; omega
             case rel => exact ⟨(wrap64 (x5_1 + 1)), (by first | rfl | (simp; done) | (simp [*]; done)), H', ⟨by have := HK1.out; omega⟩, by repeat (first | exact Drawn0.refl _ | apply Drawn0.step)⟩
           · rw [if_neg c7] at H
             have c7b0 : ((strOfNums (rd_L1 l0 x5_1)).toList == (strOfNums (rd_L1 l1 x5_1)).toList) = false := beq_eq_false_iff_ne.mpr c7; have c7b1 : ((strOfNums (rd_L1 l0 x5_1)).toList != (strOfNums (rd_L1 l1 x5_1)).toList) = true := bne_iff_ne.mpr c7; obtain rfl := oJ_ H; simp only [oI_, pI_] at H; obtain ⟨rfl⟩ := H; have p209 : 0 ≤ (x5_1 : Int) := oD_ (by assumption); have q209 : x5_1 < (l0.length : Int) := oD_ (by assumption); obtain ⟨ad209, A209_0, c209_0, e209, hx209_0, hl209_0, hi209_0⟩ := at_L1 HR0.out x5_1 p209 q209; (cases e209); have HR209_0 := aM_ hi209_0; have HC209_0 := aM_ hl209_0; clear hi209_0 hl209_0; replace p209 := eq_true p209; replace q209 := eq_true q209; have hcv10 := Kd.C_string (P := Try.prog) (A := A209_0) (c := c209_0) Try.underlying22 Try.underlying5 Try.underlying9 HR209_0.out; have hcv10n := fun n_ => Kd.C_string (P := Try.prog) (A := A209_0) (c := c209_0) Try.underlying22 Try.underlying5 Try.underlying9 (Kd.C_drewN HR209_0.out n_); have p210 : 0 ≤ (x5_1 : Int) := oD_ (by assumption); have q210 : x5_1 < (l1.length : Int) := oD_ (by assumption); obtain ⟨ad210, A210_0, c210_0, e210, hx210_0, hl210_0, hi210_0⟩ := at_L1 HR1.out x5_1 p210 q210; (cases e210); have HR210_0 := aM_ hi210_0; have HC210_0 := aM_ hl210_0; clear hi210_0 hl210_0; replace p210 := eq_true p210; replace q210 := eq_true q210; have hcv11 := Kd.C_string (P := Try.prog) (A := A210_0) (c := c210_0) Try.underlying22 Try.underlying5 Try.underlying9 HR210_0.out; have hcv11n := fun n_ => Kd.C_string (P := Try.prog) (A := A210_0) (c := c210_0) Try.underlying22 Try.underlying5 Try.underlying9 (Kd.C_drewN HR210_0.out n_); go_wp2
             repeat (go_quiet (fail); try go_wp2)
             go_ret; exact ⟨by first | rfl | (simp; done) | (simp [*]; done), by repeat (first | exact Drawn0.refl _ | apply Drawn0.step)⟩
         (· rw [if_neg c6] at H; exact absurd H (by simp))
       (· rw [if_neg c5] at H; exact absurd H (by simp))
     · rw [if_neg c4] at H
       have c4b0 : decide (x5_1 < (l0.length : Int)) = false := decide_eq_false c4; clear c4; obtain rfl := oJ_ H; simp only [oI_, pI_] at H; obtain ⟨rfl⟩ := H; go_wp2
       repeat (go_quiet (fail); try go_wp2)
       go_ret; exact ⟨by first | rfl | (simp; done) | (simp [*]; done), by repeat (first | exact Drawn0.refl _ | apply Drawn0.step)⟩
 · rw [if_neg c3] at H
   have c3b0 : ((l0.length : Int) == (l1.length : Int)) = false := beq_eq_false_iff_ne.mpr c3; have c3b1 : ((l0.length : Int) != (l1.length : Int)) = true := bne_iff_ne.mpr c3; (have c3b2 : (l0.length == l1.length) = false := by first | simpa using c3 | (simp at c3 ⊢; omega)); obtain rfl := oJ_ H; simp only [oI_, pI_] at H; obtain ⟨rfl⟩ := H; (go_enter Try.func6, Try.ntmps6); go_wp2
   repeat (go_quiet (fail); try go_wp2)
   go_ret; exact ⟨by first | rfl | (simp; done) | (simp [*]; done), by repeat (first | exact Drawn0.refl _ | apply Drawn0.step)⟩
def q05_Mod.l0 : Nat → Int → Int → Option (Int)
  | 0, _, _ => none
  | k + 1, x3, x4 => if x4 ≥ 31 then (if 0 ≤ (IntKind.u64.wrap (x4)) then (if (Int.tmod (shr .u64 x3 (IntKind.u64.wrap (x4))) 2) = 1 then (if 0 ≤ (IntKind.u64.wrap (wrap64 (x4 - 31))) then (q05_Mod.l0 k (Go.bits .xor .u64 x3 (shl .u64 2147483657 (IntKind.u64.wrap (wrap64 (x4 - 31))))) (wrap64 (x4 - 1))) else (none)) else (q05_Mod.l0 k x3 (wrap64 (x4 - 1)))) else (none)) else (some x3)
def q05_Mod.f (k : Nat) (a0 : Int) : Option (Int) := q05_Mod.l0 k a0 63
theorem q05_Mod.mono_l : ∀ k, (∀ y0 y1, LeO (q05_Mod.l0 k y0 y1) (q05_Mod.l0 (k + 1) y0 y1))
  | 0 => fun _ _ r h => by simp [q05_Mod.l0] at h
  | k + 1 => by
    have ih0 := q05_Mod.mono_l k
    · intro y0 y1
      unfold q05_Mod.l0
      repeat' first
      | (with_reducible exact ih0 _ _)
      | (with_reducible exact LeO.refl _)
      | (with_reducible exact LeO.none _)
      | (with_reducible refine LeO.ite ?_ ?_)
      | (with_reducible refine LeO.bind ?_ (fun _ => ?_))
      | exact ih0 _ _
      | exact LeO.none _
      | refine LeO.ite ?_ ?_
      | refine LeO.bind ?_ (fun _ => ?_)
theorem q05_Mod.mono : ∀ a0 k, LeO (q05_Mod.f k a0) (q05_Mod.f (k + 1) a0) := by
 intro a0 k; have ih0 := q05_Mod.mono_l k; unfold q05_Mod.f
 repeat' first
     | (with_reducible exact ih0 _ _)
     | (with_reducible exact LeO.refl _)
     | (with_reducible exact LeO.none _)
     | (with_reducible refine LeO.ite ?_ ?_)
     | (with_reducible refine LeO.bind ?_ (fun _ => ?_))
     | exact ih0 _ _
     | exact LeO.none _
     | refine LeO.ite ?_ ?_
     | refine LeO.bind ?_ (fun _ => ?_)
theorem q05_Mod.calls (k : Nat) (a0 : Int) (r : Int) (w : World) (h : q05_Mod.f k a0 = some r) :
    Calls Try.prog 63 #[.int .u64 a0] w fun e w' => e = .returned (.int .u64 r) ∧ Drawn0 w w' := by
 have H : (q05_Mod.l0 k a0 63) = some r := h; clear h; have H' := aM_ H; clear H; (go_enter Try.func63, Try.ntmps63); go_wp2; (go_loopg [3, 4] k (fun kq v3 v4 w' => ∃ (x3_1 : Int) (x4_1 : Int), v3 = .int .u64 x3_1 ∧ v4 = .int .i64 x4_1 ∧ Aside0 (q05_Mod.l0 kq x3_1 x4_1 = some r) ∧ Aside0 (kq ≤ k) ∧ Drawn0 w w'))
 case atStart => exact ⟨(a0), (63), (by first | rfl | (simp; done) | (simp [*]; done)), (by first | rfl | (simp; done) | (simp [*]; done)), H', ⟨Nat.le_refl _⟩, by repeat (first | exact Drawn0.refl _ | apply Drawn0.step)⟩
 case round =>
  clear H'; obtain ⟨x3_1, x4_1, rfl, rfl, HA, HK1, ⟨m1, rfl⟩⟩ := hrel
  cases gk with
  | zero => exact absurd HA.out (by simp [q05_Mod.l0])
  | succ k1 =>
   have H := HA.out; clear HA; simp only [q05_Mod.l0] at H; (by_cases c2 : x4_1 ≥ 31)
   · rw [if_pos c2] at H
     have c2b0 : decide (31 ≤ x4_1) = true := dT_ c2; clear c2; obtain ⟨ji3, hji3⟩ : ∃ j_ : Int, (IntKind.u64.wrap (x4_1)) = j_ := ⟨_, rfl⟩; (replace H : (if 0 ≤ (ji3) then (if (Int.tmod (shr .u64 x3_1 (ji3)) 2) = 1 then (if 0 ≤ (IntKind.u64.wrap (wrap64 (x4_1 - 31))) then (q05_Mod.l0 k1 (Go.bits .xor .u64 x3_1 (shl .u64 2147483657 (IntKind.u64.wrap (wrap64 (x4_1 - 31))))) (wrap64 (x4_1 - 1))) else (none)) else (q05_Mod.l0 k1 x3_1 (wrap64 (x4_1 - 1)))) else (none)) = some r := by first | (rw [hji3] at H; exact H) | (simp only [hji3] at H ⊢; exact H)); (by_cases c4 : 0 ≤ (ji3))
     · rw [if_pos c4] at H
       have c4b0 := eq_true c4; have c4b1 : decide (0 ≤ (ji3)) = true := dT_ c4; clear c4; obtain ⟨ji5, hji5⟩ : ∃ j_ : Int, (shr .u64 x3_1 (ji3)) = j_ := ⟨_, rfl⟩; (replace H : (if (Int.tmod (ji5) 2) = 1 then (if 0 ≤ (IntKind.u64.wrap (wrap64 (x4_1 - 31))) then (q05_Mod.l0 k1 (Go.bits .xor .u64 x3_1 (shl .u64 2147483657 (IntKind.u64.wrap (wrap64 (x4_1 - 31))))) (wrap64 (x4_1 - 1))) else (none)) else (q05_Mod.l0 k1 x3_1 (wrap64 (x4_1 - 1)))) = some r := by first | (rw [hji5] at H; exact H) | (simp only [hji5] at H ⊢; exact H)); have hji5_ : (x3_1 / 2 ^ min (ji3).toNat 64) = ji5 := hji5; have hji5z : (ji3) ≤ 64 → (x3_1 / 2 ^ (ji3).toNat) = ji5 := shr_small hji5; (by_cases c6 : (Int.tmod (ji5) 2) = 1)
       · rw [if_pos c6] at H
         have c6b0 : ((Int.tmod (ji5) 2) == 1) = true := beq_iff_eq.mpr c6; have c6b1 : ((Int.tmod (ji5) 2) != 1) = false := bne_eq_false_iff_eq.mpr c6; clear c6; obtain ⟨ji7, hji7⟩ : ∃ j_ : Int, (IntKind.u64.wrap (wrap64 (x4_1 - 31))) = j_ := ⟨_, rfl⟩; (replace H : (if 0 ≤ (ji7) then (q05_Mod.l0 k1 (Go.bits .xor .u64 x3_1 (shl .u64 2147483657 (ji7))) (wrap64 (x4_1 - 1))) else (none)) = some r := by first | (rw [hji7] at H; exact H) | (simp only [hji7] at H ⊢; exact H)); (by_cases c8 : 0 ≤ (ji7))
         · rw [if_pos c8] at H
           have c8b0 := eq_true c8; have c8b1 : decide (0 ≤ (ji7)) = true := dT_ c8; clear c8; obtain ⟨ji9, hji9⟩ : ∃ j_ : Int, (shl .u64 2147483657 (ji7)) = j_ := ⟨_, rfl⟩; (replace H : (q05_Mod.l0 k1 (Go.bits .xor .u64 x3_1 (ji9)) (wrap64 (x4_1 - 1))) = some r := by first | (rw [hji9] at H; exact H) | (simp only [hji9] at H ⊢; exact H)); have hji9_ : (IntKind.u64.wrap (2147483657 * 2 ^ min (ji7).toNat 64)) = ji9 := hji9; have hji9z : (ji7) ≤ 64 → (IntKind.u64.wrap (2147483657 * 2 ^ (ji7).toNat)) = ji9 := shl_small hji9; have H' := aM_ H; clear H; go_wp2; (go_roundg k1)
           case measure => have := HK1.out; omega
           case rel => exact ⟨(Go.bits .xor .u64 x3_1 (ji9)), (wrap64 (x4_1 - 1)), (by first | rfl | (simp; done) | (simp only [← hji9] <;> (first | rfl | simp)) | (simp [*]; done)), (by first | rfl | (simp; done) | (simp [*]; done)), H', ⟨by have := HK1.out; omega⟩, by repeat (first | exact Drawn0.refl _ | apply Drawn0.step)⟩
         (· rw [if_neg c8] at H; exact absurd H (by simp))
       · rw [if_neg c6] at H
         have c6b0 : ((Int.tmod (ji5) 2) == 1) = false := beq_eq_false_iff_ne.mpr c6; have c6b1 : ((Int.tmod (ji5) 2) != 1) = true := bne_iff_ne.mpr c6; have H' := aM_ H; clear H; go_wp2; (go_roundg k1)
         case measure => have := HK1.out; omega
         case rel => exact ⟨(x3_1), (wrap64 (x4_1 - 1)), (by first | rfl | (simp; done) | (simp [*]; done)), (by first | rfl | (simp; done) | (simp [*]; done)), H', ⟨by have := HK1.out; omega⟩, by repeat (first | exact Drawn0.refl _ | apply Drawn0.step)⟩
     (· rw [if_neg c4] at H; exact absurd H (by simp))
   (· rw [if_neg c2] at H; have c2b0 : decide (31 ≤ x4_1) = false := decide_eq_false c2; clear c2; obtain rfl := oJ_ H; simp only [oI_, pI_] at H; obtain ⟨rfl⟩ := H; go_wp2; go_ret; exact ⟨by first | rfl | (simp; done) | (simp [*]; done), by repeat (first | exact Drawn0.refl _ | apply Drawn0.step)⟩)
def q05_Push.f (k : Nat) (a0 : Int) (a1 : Int) : Option (Int) := (q05_Mod.f k a0).bind fun t211 => ((q05_Mod.f k (IntKind.u64.wrap ((IntKind.u64.wrap (t211 * 256)) + (IntKind.u64.wrap (a1))))).bind fun t212 => (some t212))
theorem q05_Push.mono : ∀ a0 a1 k, LeO (q05_Push.f k a0 a1) (q05_Push.f (k + 1) a0 a1) := by
 intro a0 a1 k; unfold q05_Push.f
 repeat' first
     | (with_reducible exact q05_Mod.mono _ _)
     | (with_reducible exact LeO.refl _)
     | (with_reducible exact LeO.none _)
     | (with_reducible refine LeO.ite ?_ ?_)
     | (with_reducible refine LeO.bind ?_ (fun _ => ?_))
     | exact LeO.none _
     | refine LeO.ite ?_ ?_
     | refine LeO.bind ?_ (fun _ => ?_)
theorem q05_Push.calls (k : Nat) (a0 : Int) (a1 : Int) (r : Int) (w : World) (h : q05_Push.f k a0 a1 = some r) :
    Calls Try.prog 53 #[.int .u64 a0, .int .u8 a1] w fun e w' => e = .returned (.int .u64 r) ∧ Drawn0 w w' := by
 have H : ((q05_Mod.f k a0).bind fun t211 => ((q05_Mod.f k (IntKind.u64.wrap ((IntKind.u64.wrap (t211 * 256)) + (IntKind.u64.wrap (a1))))).bind fun t212 => (some t212))) = some r := h; clear h; replace H := Option.bind_eq_some_iff.mp H; obtain ⟨t211, A30, H⟩ := H; replace H : ((q05_Mod.f k (IntKind.u64.wrap ((IntKind.u64.wrap (t211 * 256)) + (IntKind.u64.wrap (a1))))).bind fun t212 => (some t212)) = some r := H; have A3 := aM_ A30; clear A30; replace H := Option.bind_eq_some_iff.mp H; obtain ⟨t212, A40, H⟩ := H; replace H : (some t212) = some r := H; have A4 := aM_ A40; clear A40; obtain rfl := oJ_ H; simp only [oI_, pI_] at H; obtain ⟨rfl⟩ := H; (go_enter Try.func53, Try.ntmps53); (go_wp2_with (first | ((with_reducible refine gate_callee (f := 63) rfl ?_); refine goesL_ (some 6) rfl rfl Try.func63 (by kernel_rfl) rfl #[.int .u64 a0] rfl (by (try simp only [mA_, mC_, mN_]); first | done | rfl | (simp only [lD_, lT_]; rfl)) ?_; (with_reducible refine (q05_Mod.calls k a0 t211 _ A3.out).mono ?_); rintro e w' ⟨rfl, ⟨nd, rfl⟩⟩; refine ⟨_, rfl, ?_⟩) | ((with_reducible refine gate_callee (f := 63) rfl ?_); refine goesL_ (some 11) rfl rfl Try.func63 (by kernel_rfl) rfl #[.int .u64 (IntKind.u64.wrap ((IntKind.u64.wrap (t211 * 256)) + (IntKind.u64.wrap (a1))))] rfl (by (try simp only [mA_, mC_, mN_]); first | done | rfl | (simp only [lD_, lT_]; rfl)) ?_; (with_reducible refine (q05_Mod.calls k (IntKind.u64.wrap ((IntKind.u64.wrap (t211 * 256)) + (IntKind.u64.wrap (a1)))) t212 _ A4.out).mono ?_); rintro e w' ⟨rfl, ⟨nd, rfl⟩⟩; refine ⟨_, rfl, ?_⟩))); go_ret; exact ⟨by first | rfl | (simp; done) | (simp [*]; done), by repeat (first | exact Drawn0.refl _ | apply Drawn0.step)⟩
def q05_Window.l0 : Nat → List Int → Int → Int → Option (Int)
  | 0, _, _, _ => none
  | k + 1, x0, x3, x4 => if x4 < (x0.length : Int) then (if 0 ≤ x4 then ((q05_Push.f k x3 (rd x0 x4)).bind fun t214 => (q05_Window.l0 k x0 t214 (wrap64 (x4 + 1)))) else (none)) else (some x3)
def q05_Window.f (k : Nat) (l0 : List Int) : Option (Int) := q05_Window.l0 k l0 0 0
theorem q05_Window.mono_l : ∀ k, (∀ y0 y1 y2, LeO (q05_Window.l0 k y0 y1 y2) (q05_Window.l0 (k + 1) y0 y1 y2))
  | 0 => fun _ _ _ r h => by simp [q05_Window.l0] at h
  | k + 1 => by
    have ih0 := q05_Window.mono_l k
    · intro y0 y1 y2
      unfold q05_Window.l0
      repeat' first
      | (with_reducible exact ih0 _ _ _)
      | (with_reducible exact q05_Push.mono _ _ _)
      | (with_reducible exact LeO.refl _)
      | (with_reducible exact LeO.none _)
      | (with_reducible refine LeO.ite ?_ ?_)
      | (with_reducible refine LeO.bind ?_ (fun _ => ?_))
      | exact ih0 _ _ _
      | exact LeO.none _
      | refine LeO.ite ?_ ?_
      | refine LeO.bind ?_ (fun _ => ?_)
theorem q05_Window.mono : ∀ a0 k, LeO (q05_Window.f k a0) (q05_Window.f (k + 1) a0) := by
 intro a0 k; have ih0 := q05_Window.mono_l k; unfold q05_Window.f
 repeat' first
     | (with_reducible exact ih0 _ _ _)
     | (with_reducible exact q05_Push.mono _ _ _)
     | (with_reducible exact LeO.refl _)
     | (with_reducible exact LeO.none _)
     | (with_reducible refine LeO.ite ?_ ?_)
     | (with_reducible refine LeO.bind ?_ (fun _ => ?_))
     | exact ih0 _ _ _
     | exact LeO.none _
     | refine LeO.ite ?_ ?_
     | refine LeO.bind ?_ (fun _ => ?_)
theorem q05_Window.calls (k : Nat) (A0 : Option Addr) (c0 : Nat) (l0 : List Int) (r : Int) (w : World) (hr0 : Kd.C (Kd.int .u8) w A0 l0.length l0) (hc0 : l0.length ≤ c0) (h : q05_Window.f k l0 = some r) :
    Calls Try.prog 37 #[.slice A0 l0.length c0] w fun e w' => e = .returned (.int .u64 r) ∧ Drawn0 w w' := by
 have HR0 := aM_ hr0; have HC0 := aM_ hc0; clear hr0 hc0; have H : (q05_Window.l0 k l0 0 0) = some r := h; clear h; have H' := aM_ H; clear H; (go_enter Try.func37, Try.ntmps37); go_wp2; (go_loopg [3, 4] k (fun kq v3 v4 w' => ∃ (x3_1 : Int) (x4_1 : Int), v3 = .int .u64 x3_1 ∧ v4 = .int .i64 x4_1 ∧ Aside0 (q05_Window.l0 kq l0 x3_1 x4_1 = some r) ∧ Aside0 (kq ≤ k) ∧ Drawn0 w w'))
 case atStart => exact ⟨(0), (0), (by first | rfl | (simp; done) | (simp [*]; done)), (by first | rfl | (simp; done) | (simp [*]; done)), H', ⟨Nat.le_refl _⟩, by repeat (first | exact Drawn0.refl _ | apply Drawn0.step)⟩
 case round =>
  clear H'; obtain ⟨x3_1, x4_1, rfl, rfl, HA, HK1, ⟨m1, rfl⟩⟩ := hrel
  cases gk with
  | zero => exact absurd HA.out (by simp [q05_Window.l0])
  | succ k1 =>
   have H := HA.out; clear HA; simp only [q05_Window.l0] at H; (by_cases c2 : x4_1 < (l0.length : Int))
   · rw [if_pos c2] at H
     have c2b0 : decide (x4_1 < (l0.length : Int)) = true := dT_ c2; clear c2; (by_cases c3 : 0 ≤ x4_1)
     · rw [if_pos c3] at H
       have c3b0 : decide (0 ≤ x4_1) = true := dT_ c3; clear c3; replace H := Option.bind_eq_some_iff.mp H; obtain ⟨t214, A40, H⟩ := H; replace H : (q05_Window.l0 k1 l0 t214 (wrap64 (x4_1 + 1))) = some r := H; have A4 := aM_ A40; clear A40; have H' := aM_ H; clear H; have p213 : 0 ≤ (x4_1 : Int) := oD_ (by assumption); have q213 : x4_1 < (l0.length : Int) := oD_ (by assumption); obtain ⟨ad213, e213, hx213_0⟩ := Kd.at_int HR0.out x4_1 p213 q213; (cases e213); replace p213 := eq_true p213; replace q213 := eq_true q213; (go_wp2_with (first | ((with_reducible refine gate_callee (f := 53) rfl ?_); refine goesL_ (some 16) rfl rfl Try.func53 (by kernel_rfl) rfl #[.int .u64 x3_1, .int .u8 (rd l0 x4_1)] rfl (by (try simp only [mA_, mC_, mN_]); first | done | rfl | (simp only [lD_, lT_]; rfl)) ?_; (with_reducible refine (q05_Push.calls k1 x3_1 (rd l0 x4_1) t214 _ A4.out).mono ?_); rintro e w' ⟨rfl, ⟨nd, rfl⟩⟩; refine ⟨_, rfl, ?_⟩))); (go_roundg k1)
       case measure => have := HK1.out; omega
       case rel => exact ⟨(t214), (wrap64 (x4_1 + 1)), (by first | rfl | (simp; done) | (simp [*]; done)), (by first | rfl | (simp; done) | (simp [*]; done)), H', ⟨by have := HK1.out; omega⟩, by repeat (first | exact Drawn0.refl _ | apply Drawn0.step)⟩
     (· rw [if_neg c3] at H; exact absurd H (by simp))
   (· rw [if_neg c2] at H; have c2b0 : decide (x4_1 < (l0.length : Int)) = false := decide_eq_false c2; clear c2; obtain rfl := oJ_ H; simp only [oI_, pI_] at H; obtain ⟨rfl⟩ := H; go_wp2; go_ret; exact ⟨by first | rfl | (simp; done) | (simp [*]; done), by repeat (first | exact Drawn0.refl _ | apply Drawn0.step)⟩)
mutual
def q06_First.l0 : Nat → List Int → Int → Option (Int)
  | 0, _, _ => none
  | k + 1, x0, x3 => if x3 ≤ 2048 then (q06_First.j1 k x0 x3 (decide (x3 ≤ (x0.length : Int)))) else (q06_First.j1 k x0 x3 false)
def q06_First.j1 : Nat → List Int → Int → Bool → Option (Int)
  | 0, _, _, _ => none
  | k + 1, x0, x3, x11 => if x11 = true then (if 0 ≤ (wrap64 (x3 - 16)) then (if (wrap64 (x3 - 16)) ≤ x3 then (if x3 ≤ (x0.length : Int) then ((q05_Window.f k ((x0.take (x3 : Int).toNat).drop ((wrap64 (x3 - 16)) : Int).toNat)).bind fun t216 => (if (Int.tmod t216 1024) = 1023 then (some x3) else (q06_First.l0 k x0 (wrap64 (x3 + 1))))) else (none)) else (none)) else (none)) else (some (mn (x0.length : Int) 2048))
end
def q06_First.f (k : Nat) (l0 : List Int) : Option (Int) := q06_First.l0 k l0 512
theorem q06_First.mono_l : ∀ k, (∀ y0 y1, LeO (q06_First.l0 k y0 y1) (q06_First.l0 (k + 1) y0 y1)) ∧ (∀ y0 y1 y2, LeO (q06_First.j1 k y0 y1 y2) (q06_First.j1 (k + 1) y0 y1 y2))
  | 0 => ⟨fun _ _ r h => by simp [q06_First.l0] at h, fun _ _ _ r h => by simp [q06_First.j1] at h⟩
  | k + 1 => by
    obtain ⟨ih0, ih1⟩ := q06_First.mono_l k
    refine ⟨?_, ?_⟩
    · intro y0 y1
      unfold q06_First.l0
      repeat' first
      | (with_reducible exact ih0 _ _)
      | (with_reducible exact ih1 _ _ _)
      | (with_reducible exact q05_Window.mono _ _)
      | (with_reducible exact LeO.refl _)
      | (with_reducible exact LeO.none _)
      | (with_reducible refine LeO.ite ?_ ?_)
      | (with_reducible refine LeO.bind ?_ (fun _ => ?_))
      | exact ih0 _ _
      | exact ih1 _ _ _
      | exact LeO.none _
      | refine LeO.ite ?_ ?_
      | refine LeO.bind ?_ (fun _ => ?_)
    · intro y0 y1 y2
      unfold q06_First.j1
      repeat' first
      | (with_reducible exact ih0 _ _)
      | (with_reducible exact ih1 _ _ _)
      | (with_reducible exact q05_Window.mono _ _)
      | (with_reducible exact LeO.refl _)
      | (with_reducible exact LeO.none _)
      | (with_reducible refine LeO.ite ?_ ?_)
      | (with_reducible refine LeO.bind ?_ (fun _ => ?_))
      | exact ih0 _ _
      | exact ih1 _ _ _
      | exact LeO.none _
      | refine LeO.ite ?_ ?_
      | refine LeO.bind ?_ (fun _ => ?_)
theorem q06_First.mono : ∀ a0 k, LeO (q06_First.f k a0) (q06_First.f (k + 1) a0) := by
 intro a0 k; obtain ⟨ih0, ih1⟩ := q06_First.mono_l k; unfold q06_First.f
 repeat' first
     | (with_reducible exact ih0 _ _)
     | (with_reducible exact ih1 _ _ _)
     | (with_reducible exact q05_Window.mono _ _)
     | (with_reducible exact LeO.refl _)
     | (with_reducible exact LeO.none _)
     | (with_reducible refine LeO.ite ?_ ?_)
     | (with_reducible refine LeO.bind ?_ (fun _ => ?_))
     | exact ih0 _ _
     | exact ih1 _ _ _
     | exact LeO.none _
     | refine LeO.ite ?_ ?_
     | refine LeO.bind ?_ (fun _ => ?_)
theorem q06_First.calls (k : Nat) (A0 : Option Addr) (c0 : Nat) (l0 : List Int) (r : Int) (w : World) (hr0 : Kd.C (Kd.int .u8) w A0 l0.length l0) (hc0 : l0.length ≤ c0) (h : q06_First.f k l0 = some r) :
    Calls Try.prog 24 #[.slice A0 l0.length c0] w fun e w' => e = .returned (.int .i64 r) ∧ Below w.heap.size w w' := by
 have HR0 := aM_ hr0; have HC0 := aM_ hc0; clear hr0 hc0; have HB := aM_ (Below.refl w.heap.size w); have H : (q06_First.l0 k l0 512) = some r := h; clear h; have H' := aM_ H; clear H; (go_enter Try.func24, Try.ntmps24); go_wp2; (go_loopg [3] k (fun kq v3 w' => ∃ (x3_1 : Int), v3 = .int .i64 x3_1 ∧ Aside0 (q06_First.l0 kq l0 x3_1 = some r) ∧ Aside0 (kq ≤ k) ∧ Aside0 (Below w.heap.size w w')))
 case atStart => exact ⟨(512), (by first | rfl | (simp; done) | (simp [*]; done)), H', ⟨Nat.le_refl _⟩, ⟨bZ0_ HB.out⟩⟩
 case round =>
  clear H'; obtain ⟨x3_1, rfl, HA, HK1, HB⟩ := hrel
  cases gk with
  | zero => exact absurd HA.out (by simp [q06_First.l0])
  | succ k1 =>
   have H := HA.out; clear HA; simp only [q06_First.l0] at H; have HC2 := aM_ H; clear H; (go_upto_region 2 with (fail)); (go_cut [11] (fun v11 wc => ∃ (kq : Nat) (x11_1 : Bool), v11 = .bool x11_1 ∧ Aside0 (q06_First.j1 kq l0 x3_1 x11_1 = some r) ∧ Aside0 (kq ≤ k1) ∧ Aside0 (Below w.heap.size w wc)))
   case first =>
    have H := HC2.out; clear HC2; (by_cases c3 : x3_1 ≤ 2048)
    · rw [if_pos c3] at H
      have c3b0 : decide (x3_1 ≤ 2048) = true := dT_ c3; clear c3; (first | rw [c3b0] | (simp only [i64_w, i32_w]; rw [c3b0]) | skip); have H' := aM_ H; clear H; go_wp2; (go_meet)
      case rel => exact ⟨_, (decide (x3_1 ≤ (l0.length : Int))), (by first | rfl | (simp; done) | (simp [*]; done)), H', ⟨by have := HK1.out; first | omega | exact Nat.le_refl _⟩, ⟨bZ0_ HB.out⟩⟩
    · rw [if_neg c3] at H
      have c3b0 : decide (x3_1 ≤ 2048) = false := decide_eq_false c3; clear c3; (first | rw [c3b0] | (simp only [i64_w, i32_w]; rw [c3b0]) | skip); have H' := aM_ H; clear H; go_wp2; (go_meet)
      case rel => exact ⟨_, (false), (by first | rfl | (simp; done) | (simp [*]; done)), H', ⟨by have := HK1.out; first | omega | exact Nat.le_refl _⟩, ⟨bZ0_ HB.out⟩⟩
   case rest =>
    clear HC2; (try clear c2); (try clear p2); (try clear c3); (try clear c3b0); obtain ⟨kq, x11_1, rfl, HA, HJ1, HB⟩ := hcut
    cases kq with
    | zero => exact absurd HA.out (by simp [q06_First.j1])
    | succ kj1 =>
     have H := HA.out; clear HA; simp only [q06_First.j1] at H; (by_cases c4 : x11_1 = true)
     · subst c4
       (have H1 : (if 0 ≤ (wrap64 (x3_1 - 16)) then (if (wrap64 (x3_1 - 16)) ≤ x3_1 then (if x3_1 ≤ (l0.length : Int) then ((q05_Window.f kj1 ((l0.take (x3_1 : Int).toNat).drop ((wrap64 (x3_1 - 16)) : Int).toNat)).bind fun t216 => (if (Int.tmod t216 1024) = 1023 then (some x3_1) else (q06_First.l0 kj1 l0 (wrap64 (x3_1 + 1))))) else (none)) else (none)) else (none)) = some r := by rw [if_pos rfl] at H; exact H); clear H; have H := H1; clear H1; obtain ⟨ji5, hji5⟩ : ∃ j_ : Int, (wrap64 (x3_1 - 16)) = j_ := ⟨_, rfl⟩; (replace H : (if 0 ≤ (ji5) then (if (ji5) ≤ x3_1 then (if x3_1 ≤ (l0.length : Int) then ((q05_Window.f kj1 ((l0.take (x3_1 : Int).toNat).drop ((ji5) : Int).toNat)).bind fun t216 => (if (Int.tmod t216 1024) = 1023 then (some x3_1) else (q06_First.l0 kj1 l0 (wrap64 (x3_1 + 1))))) else (none)) else (none)) else (none)) = some r := by first | (rw [hji5] at H; exact H) | (simp only [hji5] at H ⊢; exact H)); have hji5w : (IntKind.i64.wrap (x3_1 - 16)) = ji5 := (i64_w _).trans hji5; (by_cases c6 : 0 ≤ (ji5))
       · rw [if_pos c6] at H
         have c6b0 := eq_true c6; have c6b1 : decide (0 ≤ (ji5)) = true := dT_ c6; clear c6; (by_cases c7 : (ji5) ≤ x3_1)
         · rw [if_pos c7] at H
           have c7b0 := eq_true c7; have c7b1 : decide ((ji5) ≤ x3_1) = true := dT_ c7; clear c7; (by_cases c8 : x3_1 ≤ (l0.length : Int))
           · rw [if_pos c8] at H
             have c8b0 := eq_true c8; have c8b1 : decide (x3_1 ≤ (l0.length : Int)) = true := dT_ c8; clear c8; replace H := Option.bind_eq_some_iff.mp H; obtain ⟨t216, A90, H⟩ := H; replace H : (if (Int.tmod t216 1024) = 1023 then (some x3_1) else (q06_First.l0 kj1 l0 (wrap64 (x3_1 + 1)))) = some r := H; have A9 := aM_ A90; clear A90; (by_cases c10 : (Int.tmod t216 1024) = 1023); (· rw [if_pos c10] at H; have c10b0 : ((Int.tmod t216 1024) == 1023) = true := beq_iff_eq.mpr c10; have c10b1 : ((Int.tmod t216 1024) != 1023) = false := bne_eq_false_iff_eq.mpr c10; clear c10; obtain rfl := oJ_ H; simp only [oI_, pI_] at H; obtain ⟨rfl⟩ := H; obtain ⟨i011, hi011, _, hsz11, _⟩ := info_parts info5; obtain ⟨A11, hcut11, hA11, hC11⟩ := print_mid_of (P := Try.prog) (Value.int .u8) 0 22 5 .i64 .i64 Try.underlying22 hi011 hsz11 A0 c0 l0 (ji5) x3_1 (oD_ (by assumption)) (by first | omega | exact oD_ (by assumption)) (oD_ (by assumption)) HC0.out; have HR215 := aM_ (Kd.C_of_reads (h1 := fun _ => rfl) (hA11 _ (Kd.reads_of_C HR0.out))); have HC215 := aM_ hC11; clear hA11 hC11 hi011 hsz11; (go_wp2_with (first | ((with_reducible refine gate_callee (f := 37) rfl ?_); refine goesL_ (some 19) rfl rfl Try.func37 (by kernel_rfl) rfl #[.slice A11 ((l0.take (x3_1 : Int).toNat).drop ((ji5) : Int).toNat).length (c0 - (ji5).toNat)] rfl (by (try simp only [mA_, mC_, mN_]); first | done | (rw [show ((l0.take (x3_1 : Int).toNat).drop ((ji5) : Int).toNat).length = (x3_1.toNat - (ji5).toNat) from (by rw [lD_, lT_]; have h_ : (x3_1 : Int) ≤ (l0.length : Int) := oD_ (by assumption); omega)] <;> rfl) | (simp only [hji5]; rfl) | rfl | (simp only [lD_, lT_]; rfl)) ?_; (with_reducible refine (q05_Window.calls kj1 _ _ ((l0.take (x3_1 : Int).toNat).drop ((ji5) : Int).toNat) t216 _ ?side1 ?side2 A9.out).mono ?_); (case side1 => exact cZ_ (Kd.C_below HR215.out HB.out)); (case side2 => exact HC215.out); rintro e w' ⟨rfl, ⟨nd, rfl⟩⟩; refine ⟨_, rfl, ?_⟩))); go_ret; (exact ⟨by first | rfl | (simp [errW_none, errW_some] <;> rfl) | (simp only [← hji5]; first | rfl | (simp [errW_none, errW_some] <;> rfl)) | (simp [*, errW_none, errW_some] <;> rfl), by exact bZ0_ HB.out⟩))
             · rw [if_neg c10] at H
               have c10b0 : ((Int.tmod t216 1024) == 1023) = false := beq_eq_false_iff_ne.mpr c10; have c10b1 : ((Int.tmod t216 1024) != 1023) = true := bne_iff_ne.mpr c10; have H' := aM_ H; clear H; obtain ⟨i012, hi012, _, hsz12, _⟩ := info_parts info5; obtain ⟨A12, hcut12, hA12, hC12⟩ := print_mid_of (P := Try.prog) (Value.int .u8) 0 22 5 .i64 .i64 Try.underlying22 hi012 hsz12 A0 c0 l0 (ji5) x3_1 (oD_ (by assumption)) (by first | omega | exact oD_ (by assumption)) (oD_ (by assumption)) HC0.out; have HR215 := aM_ (Kd.C_of_reads (h1 := fun _ => rfl) (hA12 _ (Kd.reads_of_C HR0.out))); have HC215 := aM_ hC12; clear hA12 hC12 hi012 hsz12; (go_wp2_with (first | ((with_reducible refine gate_callee (f := 37) rfl ?_); refine goesL_ (some 19) rfl rfl Try.func37 (by kernel_rfl) rfl #[.slice A12 ((l0.take (x3_1 : Int).toNat).drop ((ji5) : Int).toNat).length (c0 - (ji5).toNat)] rfl (by (try simp only [mA_, mC_, mN_]); first | done | (rw [show ((l0.take (x3_1 : Int).toNat).drop ((ji5) : Int).toNat).length = (x3_1.toNat - (ji5).toNat) from (by rw [lD_, lT_]; have h_ : (x3_1 : Int) ≤ (l0.length : Int) := oD_ (by assumption); omega)] <;> rfl) | (simp only [hji5]; rfl) | rfl | (simp only [lD_, lT_]; rfl)) ?_; (with_reducible refine (q05_Window.calls kj1 _ _ ((l0.take (x3_1 : Int).toNat).drop ((ji5) : Int).toNat) t216 _ ?side1 ?side2 A9.out).mono ?_); (case side1 => exact cZ_ (Kd.C_below HR215.out HB.out)); (case side2 => exact HC215.out); rintro e w' ⟨rfl, ⟨nd, rfl⟩⟩; refine ⟨_, rfl, ?_⟩))); (go_roundg kj1)
               case measure => have := HK1.out; have := HJ1.out; omega
               case rel => exact ⟨(wrap64 (x3_1 + 1)), (by first | rfl | (simp; done) | (simp [*]; done)), H', ⟨by have := HK1.out; have := HJ1.out; omega⟩, ⟨bZ0_ HB.out⟩⟩
           (· rw [if_neg c8] at H; exact absurd H (by simp))
         (· rw [if_neg c7] at H; exact absurd H (by simp))
       (· rw [if_neg c6] at H; exact absurd H (by simp))
     (· replace c4 := Bool.eq_false_iff.mpr c4; subst c4; (have H1 : (some (mn (l0.length : Int) 2048)) = some r := by rw [if_neg (show ¬ (false = true) by decide)] at H; exact H); clear H; have H := H1; clear H1; obtain ⟨ji13, hji13⟩ : ∃ j_ : Int, (mn (l0.length : Int) 2048) = j_ := ⟨_, rfl⟩; (replace H : (some ji13) = some r := by first | (rw [hji13] at H; exact H) | (simp only [hji13] at H ⊢; exact H)); have hji13_ : (if 2048 < (l0.length : Int) then 2048 else (l0.length : Int)) = ji13 := hji13; (try (have hji13_n := hji13_; simp only [Int.ofNat_lt] at hji13_n)); obtain rfl := oJ_ H; simp only [oI_, pI_] at H; obtain ⟨rfl⟩ := H; go_wp2; go_ret; (exact ⟨by first | rfl | (simp [errW_none, errW_some] <;> rfl) | (simp only [← hji13]; first | rfl | (simp [errW_none, errW_some] <;> rfl)) | (simp [*, errW_none, errW_some] <;> rfl), by exact bZ0_ HB.out⟩))
def q06_Cuts.l0 : Nat → List Int → List Int → Int → Option (List Int)
  | 0, _, _, _ => none
  | k + 1, x0, x3, x4 => if x4 < (x0.length : Int) then (if 0 ≤ x4 then (if x4 ≤ (x0.length : Int) then ((q06_First.f k (x0.drop (x4 : Int).toNat)).bind fun t218 => (if x3.length < 17592186044416 then (q06_Cuts.l0 k x0 (x3 ++ [wrap64 (x4 + t218)]) (wrap64 (x4 + t218))) else (none))) else (none)) else (none)) else (some x3)
def q06_Cuts.f (k : Nat) (l0 : List Int) : Option (List Int) := q06_Cuts.l0 k l0 ([] : List Int) 0
theorem q06_Cuts.mono_l : ∀ k, (∀ y0 y1 y2, LeO (q06_Cuts.l0 k y0 y1 y2) (q06_Cuts.l0 (k + 1) y0 y1 y2))
  | 0 => fun _ _ _ r h => by simp [q06_Cuts.l0] at h
  | k + 1 => by
    have ih0 := q06_Cuts.mono_l k
    · intro y0 y1 y2
      unfold q06_Cuts.l0
      repeat' first
      | (with_reducible exact ih0 _ _ _)
      | (with_reducible exact q06_First.mono _ _)
      | (with_reducible exact LeO.refl _)
      | (with_reducible exact LeO.none _)
      | (with_reducible refine LeO.ite ?_ ?_)
      | (with_reducible refine LeO.bind ?_ (fun _ => ?_))
      | exact ih0 _ _ _
      | exact LeO.none _
      | refine LeO.ite ?_ ?_
      | refine LeO.bind ?_ (fun _ => ?_)
theorem q06_Cuts.mono : ∀ a0 k, LeO (q06_Cuts.f k a0) (q06_Cuts.f (k + 1) a0) := by
 intro a0 k; have ih0 := q06_Cuts.mono_l k; unfold q06_Cuts.f
 repeat' first
     | (with_reducible exact ih0 _ _ _)
     | (with_reducible exact q06_First.mono _ _)
     | (with_reducible exact LeO.refl _)
     | (with_reducible exact LeO.none _)
     | (with_reducible refine LeO.ite ?_ ?_)
     | (with_reducible refine LeO.bind ?_ (fun _ => ?_))
     | exact ih0 _ _ _
     | exact LeO.none _
     | refine LeO.ite ?_ ?_
     | refine LeO.bind ?_ (fun _ => ?_)
theorem q06_Cuts.calls (k : Nat) (A0 : Option Addr) (c0 : Nat) (l0 : List Int) (r : List Int) (w : World) (hr0 : Kd.C (Kd.int .u8) w A0 l0.length l0) (hc0 : l0.length ≤ c0) (h : q06_Cuts.f k l0 = some r) :
    Calls Try.prog 13 #[.slice A0 l0.length c0] w fun e w' => ∃ v0_ : Value, e = .returned (v0_) ∧ Kd.R (Kd.int .i64) 3 w' w.heap.size (fun _ => True) v0_ r ∧ Below w.heap.size w w' := by
 have HR0 := aM_ hr0; have HC0 := aM_ hc0; clear hr0 hc0; have HB := aM_ (Below.refl w.heap.size w); have H : (q06_Cuts.l0 k l0 ([] : List Int) 0) = some r := h; clear h; have H' := aM_ H; clear H; (go_enter Try.func13, Try.ntmps13); go_wp2; (go_loopg [3, 4] k (fun kq v3 v4 w' => ∃ (x3_1 : List Int) (x4_1 : Int), v4 = .int .i64 x4_1 ∧ Aside0 (q06_Cuts.l0 kq l0 x3_1 x4_1 = some r) ∧ Aside0 (kq ≤ k) ∧ Aside0 (Kd.R (Kd.int .i64) 3 w' w.heap.size (fun _ => True) v3 x3_1) ∧ Aside0 (Below w.heap.size w w')))
 case atStart => exact ⟨(([] : List Int)), (0), (by first | rfl | (simp; done) | (simp [*]; done)), H', ⟨Nat.le_refl _⟩, ⟨by first | exact Kd.R_nil _ _ _ _ _ | exact Kd.N_nil _ _ _ _ _ | exact Kd.V_nil _ _ _ _ _ | exact Kd.Q_nil _ _ _ _ _ | exact Kd.S_nil _ _ _ _ _⟩, ⟨bZ0_ HB.out⟩⟩
 case round =>
  clear H'; (try clear c1); obtain ⟨x3_1, x4_1, rfl, HA, HK1, HO_3, HB⟩ := hrel
  cases gk with
  | zero => exact absurd HA.out (by simp [q06_Cuts.l0])
  | succ k1 =>
   have H := HA.out; clear HA; simp only [q06_Cuts.l0] at H; (by_cases c2 : x4_1 < (l0.length : Int))
   · rw [if_pos c2] at H
     have c2b0 : decide (x4_1 < (l0.length : Int)) = true := dT_ c2; clear c2; (by_cases c3 : 0 ≤ x4_1)
     · rw [if_pos c3] at H
       have c3b0 := eq_true c3; have c3b1 : decide (0 ≤ x4_1) = true := dT_ c3; clear c3; (by_cases c4 : x4_1 ≤ (l0.length : Int))
       · rw [if_pos c4] at H
         have c4b0 := eq_true c4; have c4b1 : decide (x4_1 ≤ (l0.length : Int)) = true := dT_ c4; clear c4; replace H := Option.bind_eq_some_iff.mp H; obtain ⟨t218, A50, H⟩ := H; replace H : (if x3_1.length < 17592186044416 then (q06_Cuts.l0 k1 l0 (x3_1 ++ [wrap64 (x4_1 + t218)]) (wrap64 (x4_1 + t218))) else (none)) = some r := H; have A5 := aM_ A50; clear A50; (by_cases c6 : x3_1.length < 17592186044416)
         · rw [if_pos c6] at H
           have LMc6 := aM_ c6; clear c6; obtain ⟨y219, hy219⟩ : ∃ y_ : List Int, y_ = (x3_1 ++ [wrap64 (x4_1 + t218)]) := ⟨_, rfl⟩; (replace H : (q06_Cuts.l0 k1 l0 y219 (wrap64 (x4_1 + t218))) = some r := yZ_ H hy219); have Ny219 := aM_ hy219; clear hy219; have H' := aM_ H; clear H; obtain ⟨i07, hi07, _, hsz7, _⟩ := info_parts info5; obtain ⟨A7, hcut7, hA7, hC7⟩ := print_drop_of (P := Try.prog) (Value.int .u8) 0 22 5 .i64 Try.underlying22 hi07 hsz7 A0 c0 l0 x4_1 (oD_ (by assumption)) (oD_ (by assumption)) HC0.out; have HR217 := aM_ (Kd.C_of_reads (h1 := fun _ => rfl) (hA7 _ (Kd.reads_of_C HR0.out))); have HC217 := aM_ hC7; clear hA7 hC7 hi07 hsz7
           go_wp2_with (first | ((with_reducible refine gate_callee (f := 24) rfl ?_); refine goesL_ (some 13) rfl rfl Try.func24 (by kernel_rfl) rfl #[.slice A7 (l0.drop (x4_1 : Int).toNat).length (c0 - x4_1.toNat)] rfl (by (try simp only [mA_, mC_, mN_]); first | done | (rw [show (l0.drop (x4_1 : Int).toNat).length = (l0.length - x4_1.toNat) from lD_] <;> rfl) | rfl | (simp only [lD_, lT_]; rfl)) ?_; (with_reducible refine (q06_First.calls k1 _ _ (l0.drop (x4_1 : Int).toNat) t218 _ ?side1 ?side2 A5.out).mono ?_); (case side1 => exact cZ_ (Kd.C_below HR217.out HB.out)); (case side2 => exact HC217.out); rintro e w8 ⟨rfl, hb⟩; refine ⟨_, rfl, ?_⟩; have n0_ := aM_ (Kd.R_below (rZ_ HO_3.out) hb); have n1_ := aM_ (bT_ (bZ0_ HB.out) hb); clear HO_3; clear HB; have HO_3 := n0_; have HB := n1_; clear n0_ n1_; (try clear hb); (try clear hb2); (try clear hk); (try clear hi)) | ((with_reducible refine gate_builtin (b := .append) (xs := #[.tmp 15, .tmp 17]) rfl ?_); at_builtin; refine Kd.R_append (Kd.int .i64) (w0 := w) w.heap.size rfl (.tmp 15) (.tmp 17) 37 3 (.int .i64 0) 8 rfl Try.underlying37 info3 rfl (by decide) (by omega) u3 x3_1 (wrap64 (x4_1 + t218)) [.int .i64 (wrap64 (x4_1 + t218))] (fun _ => True) (fun _ => False) rfl rfl ?aP (fun _ hk => hk.elim) ?aF ?aO ?aB ?aS ?aL ?_; (case aP => exact rfl); (case aB => exact (bZ0_ HB.out)); (case aF => exact (fun _ _ => trivial)); (case aO => exact (rZ_ HO_3.out)); (case aS => exact (bZ_ (bZ0_ HB.out))); (case aL => have := LMc6.out; omega); intro v220 w9 ho hb hg hat; rw [← Ny219.out] at ho; have n0_ := aM_ (hb); have n1_ := aM_ (ho); clear HB; clear HO_3; have HB := n0_; have HO221 := n1_; clear n0_ n1_; clear ho hb hg hat))
           (go_roundg k1)
           case measure => have := HK1.out; omega
           case rel => exact ⟨(y219), (wrap64 (x4_1 + t218)), (by first | rfl | (simp; done) | (simp [*]; done)), H', ⟨by have := HK1.out; omega⟩, ⟨rZ_ HO221.out⟩, ⟨bZ0_ HB.out⟩⟩
         (· rw [if_neg c6] at H; exact absurd H (by simp))
       (· rw [if_neg c4] at H; exact absurd H (by simp))
     (· rw [if_neg c3] at H; exact absurd H (by simp))
   (· rw [if_neg c2] at H; have c2b0 : decide (x4_1 < (l0.length : Int)) = false := decide_eq_false c2; clear c2; obtain rfl := oJ_ H; simp only [oI_, pI_] at H; obtain ⟨rfl⟩ := H; go_wp2; go_ret; (exact ⟨_, by first | rfl | (simp [errW_none, errW_some] <;> rfl) | (simp [*, errW_none, errW_some] <;> rfl), by exact rZ_ HO_3.out, by exact bZ0_ HB.out⟩))
end Go.Proofs.Ytjjbofbkpmabbaa.Fn
