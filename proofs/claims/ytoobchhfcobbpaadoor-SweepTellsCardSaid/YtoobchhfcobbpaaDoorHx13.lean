import Derived.Test.YtoobchhfcobbpaaDoorHx0
import Derived.Test.YtoobchhfcobbpaaDoorHx10
import Derived.Test.YtoobchhfcobbpaaDoorHx12
namespace Go.Proofs.YtoobchhfcobbpaaDoor.Fn
open Go.RowKit Go.Proofs.YtoobchhfcobbpaaDoorW.PrintWords Go.Proofs.YtoobchhfcobbpaaDoorW.PrintLast Go.Proofs.YtoobchhfcobbpaaDoorW.PrintMore
attribute [local go_sem] max2_int min2_int max_two min_two max_three min_three max_four min_four
set_option linter.unusedVariables false
set_option linter.unusedSimpArgs false
def q25_dirty.l0 : Nat → List (S36) → List ByteArray → Int → Int → Int → Int → Option (Bool)
  | 0, _, _, _, _, _, _ => none
  | k + 1, x0, x1, x2, x3, x9, x10 => if x10 < (x0.length : Int) then (if 0 ≤ x10 then (if ((rd_T36 x0 x10).f1) = x2 then ((q07_Find.f k x1 ((rd_T36 x0 x10).f0)).bind fun t425 => (if t425 < 0 then (some true) else (q25_dirty.l0 k x0 x1 x2 x3 (wrap64 (x9 + ((rd_T36 x0 x10).f3))) (wrap64 (x10 + 1))))) else (q25_dirty.l0 k x0 x1 x2 x3 x9 (wrap64 (x10 + 1)))) else (none)) else (some (decide (x3 > x9)))
def q25_dirty.f (k : Nat) (l0 : List (S36)) (l1 : List ByteArray) (a2 : Int) (a3 : Int) : Option (Bool) := q25_dirty.l0 k l0 l1 a2 a3 0 0
theorem q25_dirty.mono_l : ∀ k, (∀ y0 y1 y2 y3 y4 y5, LeO (q25_dirty.l0 k y0 y1 y2 y3 y4 y5) (q25_dirty.l0 (k + 1) y0 y1 y2 y3 y4 y5))
  | 0 => fun _ _ _ _ _ _ r h => by simp [q25_dirty.l0] at h
  | k + 1 => by
    have ih0 := q25_dirty.mono_l k
    · intro y0 y1 y2 y3 y4 y5
      unfold q25_dirty.l0
      repeat' first
      | (with_reducible exact ih0 _ _ _ _ _ _)
      | (with_reducible exact q07_Find.mono _ _ _)
      | (with_reducible exact LeO.refl _)
      | (with_reducible exact LeO.none _)
      | (with_reducible refine LeO.ite ?_ ?_)
      | (with_reducible refine LeO.bind ?_ (fun _ => ?_))
      | exact ih0 _ _ _ _ _ _
      | exact LeO.none _
      | refine LeO.ite ?_ ?_
      | refine LeO.bind ?_ (fun _ => ?_)
theorem q25_dirty.mono : ∀ a0 a1 a2 a3 k, LeO (q25_dirty.f k a0 a1 a2 a3) (q25_dirty.f (k + 1) a0 a1 a2 a3) := by
 intro a0 a1 a2 a3 k; have ih0 := q25_dirty.mono_l k; unfold q25_dirty.f
 repeat' first
     | (with_reducible exact ih0 _ _ _ _ _ _)
     | (with_reducible exact q07_Find.mono _ _ _)
     | (with_reducible exact LeO.refl _)
     | (with_reducible exact LeO.none _)
     | (with_reducible refine LeO.ite ?_ ?_)
     | (with_reducible refine LeO.bind ?_ (fun _ => ?_))
     | exact ih0 _ _ _ _ _ _
     | exact LeO.none _
     | refine LeO.ite ?_ ?_
     | refine LeO.bind ?_ (fun _ => ?_)
set_option maxHeartbeats 8000000 in
set_option maxRecDepth 100000 in
theorem q25_dirty.calls (k : Nat) (A0 : Option Addr) (c0 : Nat) (l0 : List (S36)) (A1 : Option Addr) (c1 : Nat) (l1 : List ByteArray) (a2 : Int) (a3 : Int) (r : Bool) (w : World) (hr0 : Kd.C k36 w A0 l0.length l0) (hc0 : l0.length ≤ c0) (hr1 : Kd.C Kd.string w A1 l1.length l1) (hc1 : l1.length ≤ c1) (h : q25_dirty.f k l0 l1 a2 a3 = some r) :
    Calls Tryd.prog 22 #[.slice A0 l0.length c0, .slice A1 l1.length c1, .int .i64 a2, .int .i64 a3] w fun e w' => e = .returned (.bool r) ∧ Drawn0 w w' := by
 have HR0 := aM_ hr0; have HC0 := aM_ hc0; clear hr0 hc0; have HR1 := aM_ hr1; have HC1 := aM_ hc1; clear hr1 hc1; have H : (q25_dirty.l0 k l0 l1 a2 a3 0 0) = some r := h; clear h; have H' := aM_ H; clear H; (go_enter Tryd.func22, Tryd.ntmps22); go_wp2; (go_loopg [9, 10] k (fun kq v9 v10 w' => ∃ (x9_1 : Int) (x10_1 : Int), v9 = .int .i64 x9_1 ∧ v10 = .int .i64 x10_1 ∧ Aside0 (q25_dirty.l0 kq l0 l1 a2 a3 x9_1 x10_1 = some r) ∧ Aside0 (kq ≤ k) ∧ Drawn0 w w'))
 case atStart => exact ⟨(0), (0), (by first | rfl | (simp; done) | (simp [*]; done)), (by first | rfl | (simp; done) | (simp [*]; done)), H', ⟨Nat.le_refl _⟩, by repeat (first | exact Drawn0.refl _ | apply Drawn0.step)⟩
 case round =>
  clear H'; (try clear c1); (try clear c2); (try clear p2); obtain ⟨x9_1, x10_1, rfl, rfl, HA, HK1, ⟨m1, rfl⟩⟩ := hrel
  cases gk with
  | zero => exact absurd HA.out (by simp [q25_dirty.l0])
  | succ k1 =>
   have H := HA.out; clear HA; simp only [q25_dirty.l0] at H; (by_cases c5 : x10_1 < (l0.length : Int))
   · rw [if_pos c5] at H
     have c5b0 : decide (x10_1 < (l0.length : Int)) = true := decide_eq_true c5; clear c5; (by_cases c6 : 0 ≤ x10_1)
     · rw [if_pos c6] at H
       have c6b0 : decide (0 ≤ x10_1) = true := decide_eq_true c6; clear c6; (by_cases c7 : ((rd_T36 l0 x10_1).f1) = a2)
       · rw [if_pos c7] at H
         have c7b0 : (((rd_T36 l0 x10_1).f1) == a2) = true := beq_iff_eq.mpr c7; have c7b1 : (((rd_T36 l0 x10_1).f1) != a2) = false := bne_eq_false_iff_eq.mpr c7; clear c7; replace H := Option.bind_eq_some_iff.mp H; obtain ⟨t425, A80, H⟩ := H; replace H : (if t425 < 0 then (some true) else (q25_dirty.l0 k1 l0 l1 a2 a3 (wrap64 (x9_1 + ((rd_T36 l0 x10_1).f3))) (wrap64 (x10_1 + 1)))) = some r := H; have A8 := aM_ A80; clear A80; (by_cases c9 : t425 < 0); (· rw [if_pos c9] at H; have c9b0 : decide (t425 < 0) = true := decide_eq_true c9; clear c9; obtain rfl := Option.some.inj H; simp only [Option.some.injEq, Prod.mk.injEq] at H; obtain ⟨rfl⟩ := H; have p422 : 0 ≤ (x10_1 : Int) := of_decide_eq_true (by assumption); have q422 : x10_1 < (l0.length : Int) := of_decide_eq_true (by assumption); obtain ⟨ad422, e422, hx422_0, hx422_1, hx422_2, hx422_3, hx422_4⟩ := at_T36 HR0.out x10_1 p422 q422; (cases e422); replace p422 := eq_true p422; replace q422 := eq_true q422; have p423 : 0 ≤ (x10_1 : Int) := of_decide_eq_true (by assumption); have q423 : x10_1 < (l0.length : Int) := of_decide_eq_true (by assumption); obtain ⟨ad423, e423, hx423_0, hx423_1, hx423_2, hx423_3, hx423_4⟩ := at_T36 HR0.out x10_1 p423 q423; obtain rfl : ad422 = ad423 := (by injection e423); replace p423 := eq_true p423; replace q423 := eq_true q423; have p424 : 0 ≤ (x10_1 : Int) := of_decide_eq_true (by assumption); have q424 : x10_1 < (l0.length : Int) := of_decide_eq_true (by assumption); obtain ⟨ad424, e424, hx424_0, hx424_1, hx424_2, hx424_3, hx424_4⟩ := at_T36 HR0.out x10_1 p424 q424; obtain rfl : ad422 = ad424 := (by injection e424); replace p424 := eq_true p424; replace q424 := eq_true q424; (go_wp2_with (first | ((with_reducible refine gate_callee (f := 15) rfl ?_); refine goesL_ (some 37) rfl rfl Tryd.func15 (by kernel_rfl) rfl #[.slice A1 l1.length c1, .string ((rd_T36 l0 x10_1).f0)] rfl (by (try simp only [List.map_toArray, List.map_cons, List.map_nil]); first | done | rfl | (simp only [List.length_drop, List.length_take]; rfl)) ?_; (with_reducible refine (q07_Find.calls k1 _ _ l1 ((rd_T36 l0 x10_1).f0) t425 _ ?side1 ?side2 A8.out).mono ?_); (case side1 => repeat (first | exact HR1.out | (with_reducible refine Kd.C_alloc ?_ _) | (with_reducible refine Kd.C_drewN ?_ _) | (with_reducible refine Kd.C_drew ?_))); (case side2 => exact HC1.out); rintro e w' ⟨rfl, ⟨nd, rfl⟩⟩; refine ⟨_, rfl, ?_⟩))); go_ret; exact ⟨by first | rfl | (simp; done) | (simp [*]; done), by repeat (first | exact Drawn0.refl _ | apply Drawn0.step)⟩)
         · rw [if_neg c9] at H
           have c9b0 : decide (t425 < 0) = false := decide_eq_false c9; clear c9; have H' := aM_ H; clear H; have p422 : 0 ≤ (x10_1 : Int) := of_decide_eq_true (by assumption); have q422 : x10_1 < (l0.length : Int) := of_decide_eq_true (by assumption); obtain ⟨ad422, e422, hx422_0, hx422_1, hx422_2, hx422_3, hx422_4⟩ := at_T36 HR0.out x10_1 p422 q422; (cases e422); replace p422 := eq_true p422; replace q422 := eq_true q422; have p423 : 0 ≤ (x10_1 : Int) := of_decide_eq_true (by assumption); have q423 : x10_1 < (l0.length : Int) := of_decide_eq_true (by assumption); obtain ⟨ad423, e423, hx423_0, hx423_1, hx423_2, hx423_3, hx423_4⟩ := at_T36 HR0.out x10_1 p423 q423; obtain rfl : ad422 = ad423 := (by injection e423); replace p423 := eq_true p423; replace q423 := eq_true q423; have p424 : 0 ≤ (x10_1 : Int) := of_decide_eq_true (by assumption); have q424 : x10_1 < (l0.length : Int) := of_decide_eq_true (by assumption); obtain ⟨ad424, e424, hx424_0, hx424_1, hx424_2, hx424_3, hx424_4⟩ := at_T36 HR0.out x10_1 p424 q424; obtain rfl : ad422 = ad424 := (by injection e424); replace p424 := eq_true p424; replace q424 := eq_true q424; (go_wp2_with (first | ((with_reducible refine gate_callee (f := 15) rfl ?_); refine goesL_ (some 37) rfl rfl Tryd.func15 (by kernel_rfl) rfl #[.slice A1 l1.length c1, .string ((rd_T36 l0 x10_1).f0)] rfl (by (try simp only [List.map_toArray, List.map_cons, List.map_nil]); first | done | rfl | (simp only [List.length_drop, List.length_take]; rfl)) ?_; (with_reducible refine (q07_Find.calls k1 _ _ l1 ((rd_T36 l0 x10_1).f0) t425 _ ?side1 ?side2 A8.out).mono ?_); (case side1 => repeat (first | exact HR1.out | (with_reducible refine Kd.C_alloc ?_ _) | (with_reducible refine Kd.C_drewN ?_ _) | (with_reducible refine Kd.C_drew ?_))); (case side2 => exact HC1.out); rintro e w' ⟨rfl, ⟨nd, rfl⟩⟩; refine ⟨_, rfl, ?_⟩))); (go_roundg k1)
           case measure => have := HK1.out; omega
           case rel => exact ⟨(wrap64 (x9_1 + ((rd_T36 l0 x10_1).f3))), (wrap64 (x10_1 + 1)), (by first | rfl | (simp; done) | (simp [*]; done)), (by first | rfl | (simp; done) | (simp [*]; done)), H', ⟨by have := HK1.out; omega⟩, by repeat (first | exact Drawn0.refl _ | apply Drawn0.step)⟩
       · rw [if_neg c7] at H
         have c7b0 : (((rd_T36 l0 x10_1).f1) == a2) = false := beq_eq_false_iff_ne.mpr c7; have c7b1 : (((rd_T36 l0 x10_1).f1) != a2) = true := bne_iff_ne.mpr c7; have H' := aM_ H; clear H; have p422 : 0 ≤ (x10_1 : Int) := of_decide_eq_true (by assumption); have q422 : x10_1 < (l0.length : Int) := of_decide_eq_true (by assumption); obtain ⟨ad422, e422, hx422_0, hx422_1, hx422_2, hx422_3, hx422_4⟩ := at_T36 HR0.out x10_1 p422 q422; (cases e422); replace p422 := eq_true p422; replace q422 := eq_true q422; go_wp2; (go_roundg k1)
         case measure => have := HK1.out; omega
         case rel => exact ⟨(x9_1), (wrap64 (x10_1 + 1)), (by first | rfl | (simp; done) | (simp [*]; done)), (by first | rfl | (simp; done) | (simp [*]; done)), H', ⟨by have := HK1.out; omega⟩, by repeat (first | exact Drawn0.refl _ | apply Drawn0.step)⟩
     (· rw [if_neg c6] at H; exact absurd H (by simp))
   (· rw [if_neg c5] at H; have c5b0 : decide (x10_1 < (l0.length : Int)) = false := decide_eq_false c5; clear c5; obtain rfl := Option.some.inj H; simp only [Option.some.injEq, Prod.mk.injEq] at H; obtain ⟨rfl⟩ := H; go_wp2; go_ret; exact ⟨by first | rfl | (simp; done) | (simp [*]; done), by repeat (first | exact Drawn0.refl _ | apply Drawn0.step)⟩)
mutual
def q25_Dirty.l0 : Nat → List (S36) → List ByteArray → List Int → List Int → List Int → Int → Option (List Int)
  | 0, _, _, _, _, _, _ => none
  | k + 1, x0, x1, x2, x3, x9, x10 => if x10 < (x2.length : Int) then (if x10 < (x3.length : Int) then ((q14_Check.f x0).bind fun t426 => (q25_Dirty.j1 k x0 x1 x2 x3 x9 x10 t426)) else (q25_Dirty.j1 k x0 x1 x2 x3 x9 x10 false)) else (q25_Dirty.j1 k x0 x1 x2 x3 x9 x10 false)
def q25_Dirty.j1 : Nat → List (S36) → List ByteArray → List Int → List Int → List Int → Int → Bool → Option (List Int)
  | 0, _, _, _, _, _, _, _ => none
  | k + 1, x0, x1, x2, x3, x9, x10, x24 => if x24 = true then (if 0 ≤ x10 then (if x10 < (x2.length : Int) then (if x10 < (x3.length : Int) then ((q25_dirty.f k x0 x1 (rd x2 x10) (rd x3 x10)).bind fun t429 => (if t429 = true then (if x9.length < 17592186044416 then (q25_Dirty.l0 k x0 x1 x2 x3 (x9 ++ [rd x2 x10]) (wrap64 (x10 + 1))) else (none)) else (q25_Dirty.l0 k x0 x1 x2 x3 x9 (wrap64 (x10 + 1))))) else (none)) else (none)) else (none)) else (some x9)
end
def q25_Dirty.f (k : Nat) (l0 : List (S36)) (l1 : List ByteArray) (l2 : List Int) (l3 : List Int) : Option (List Int) := q25_Dirty.l0 k l0 l1 l2 l3 ([] : List Int) 0
theorem q25_Dirty.mono_l : ∀ k, (∀ y0 y1 y2 y3 y4 y5, LeO (q25_Dirty.l0 k y0 y1 y2 y3 y4 y5) (q25_Dirty.l0 (k + 1) y0 y1 y2 y3 y4 y5)) ∧ (∀ y0 y1 y2 y3 y4 y5 y6, LeO (q25_Dirty.j1 k y0 y1 y2 y3 y4 y5 y6) (q25_Dirty.j1 (k + 1) y0 y1 y2 y3 y4 y5 y6))
  | 0 => ⟨fun _ _ _ _ _ _ r h => by simp [q25_Dirty.l0] at h, fun _ _ _ _ _ _ _ r h => by simp [q25_Dirty.j1] at h⟩
  | k + 1 => by
    obtain ⟨ih0, ih1⟩ := q25_Dirty.mono_l k
    refine ⟨?_, ?_⟩
    · intro y0 y1 y2 y3 y4 y5
      unfold q25_Dirty.l0
      repeat' first
      | (with_reducible exact ih0 _ _ _ _ _ _)
      | (with_reducible exact ih1 _ _ _ _ _ _ _)
      | (with_reducible exact q25_dirty.mono _ _ _ _ _)
      | (with_reducible exact LeO.refl _)
      | (with_reducible exact LeO.none _)
      | (with_reducible refine LeO.ite ?_ ?_)
      | (with_reducible refine LeO.bind ?_ (fun _ => ?_))
      | exact ih0 _ _ _ _ _ _
      | exact ih1 _ _ _ _ _ _ _
      | exact LeO.none _
      | refine LeO.ite ?_ ?_
      | refine LeO.bind ?_ (fun _ => ?_)
    · intro y0 y1 y2 y3 y4 y5 y6
      unfold q25_Dirty.j1
      repeat' first
      | (with_reducible exact ih0 _ _ _ _ _ _)
      | (with_reducible exact ih1 _ _ _ _ _ _ _)
      | (with_reducible exact q25_dirty.mono _ _ _ _ _)
      | (with_reducible exact LeO.refl _)
      | (with_reducible exact LeO.none _)
      | (with_reducible refine LeO.ite ?_ ?_)
      | (with_reducible refine LeO.bind ?_ (fun _ => ?_))
      | exact ih0 _ _ _ _ _ _
      | exact ih1 _ _ _ _ _ _ _
      | exact LeO.none _
      | refine LeO.ite ?_ ?_
      | refine LeO.bind ?_ (fun _ => ?_)
theorem q25_Dirty.mono : ∀ a0 a1 a2 a3 k, LeO (q25_Dirty.f k a0 a1 a2 a3) (q25_Dirty.f (k + 1) a0 a1 a2 a3) := by
 intro a0 a1 a2 a3 k; obtain ⟨ih0, ih1⟩ := q25_Dirty.mono_l k; unfold q25_Dirty.f
 repeat' first
     | (with_reducible exact ih0 _ _ _ _ _ _)
     | (with_reducible exact ih1 _ _ _ _ _ _ _)
     | (with_reducible exact q25_dirty.mono _ _ _ _ _)
     | (with_reducible exact LeO.refl _)
     | (with_reducible exact LeO.none _)
     | (with_reducible refine LeO.ite ?_ ?_)
     | (with_reducible refine LeO.bind ?_ (fun _ => ?_))
     | exact ih0 _ _ _ _ _ _
     | exact ih1 _ _ _ _ _ _ _
     | exact LeO.none _
     | refine LeO.ite ?_ ?_
     | refine LeO.bind ?_ (fun _ => ?_)
set_option maxHeartbeats 8000000 in
set_option maxRecDepth 100000 in
theorem q25_Dirty.calls (k : Nat) (A0 : Option Addr) (c0 : Nat) (l0 : List (S36)) (A1 : Option Addr) (c1 : Nat) (l1 : List ByteArray) (A2 : Option Addr) (c2 : Nat) (l2 : List Int) (A3 : Option Addr) (c3 : Nat) (l3 : List Int) (r : List Int) (w : World) (hr0 : Kd.C k36 w A0 l0.length l0) (hc0 : l0.length ≤ c0) (hr1 : Kd.C Kd.string w A1 l1.length l1) (hc1 : l1.length ≤ c1) (hr2 : Kd.C (Kd.int .i64) w A2 l2.length l2) (hc2 : l2.length ≤ c2) (hr3 : Kd.C (Kd.int .i64) w A3 l3.length l3) (hc3 : l3.length ≤ c3) (h : q25_Dirty.f k l0 l1 l2 l3 = some r) :
    Calls Tryd.prog 8 #[.slice A0 l0.length c0, .slice A1 l1.length c1, .slice A2 l2.length c2, .slice A3 l3.length c3] w fun e w' => ∃ v0_ : Value, e = .returned (v0_) ∧ Kd.R (Kd.int .i64) 3 w' w.heap.size (fun _ => True) v0_ r ∧ Below w.heap.size w w' := by
 have HR0 := aM_ hr0; have HC0 := aM_ hc0; clear hr0 hc0; have HR1 := aM_ hr1; have HC1 := aM_ hc1; clear hr1 hc1; have HR2 := aM_ hr2; have HC2 := aM_ hc2; clear hr2 hc2; have HR3 := aM_ hr3; have HC3 := aM_ hc3; clear hr3 hc3; have HB := aM_ (Below.refl w.heap.size w); have H : (q25_Dirty.l0 k l0 l1 l2 l3 ([] : List Int) 0) = some r := h; clear h; have H' := aM_ H; clear H; (go_enter Tryd.func8, Tryd.ntmps8); go_wp2
 repeat (go_quiet (fail); try go_wp2)
 (go_loopg [9, 10] k (fun kq v9 v10 w' => ∃ (x9_1 : List Int) (x10_1 : Int), v10 = .int .i64 x10_1 ∧ Aside0 (q25_Dirty.l0 kq l0 l1 l2 l3 x9_1 x10_1 = some r) ∧ Aside0 (kq ≤ k) ∧ Aside0 (Kd.R (Kd.int .i64) 3 w' w.heap.size (fun _ => True) v9 x9_1) ∧ Aside0 (Below w.heap.size w w')))
 case atStart => exact ⟨(([] : List Int)), (0), (by first | rfl | (simp; done) | (simp [*]; done)), H', ⟨Nat.le_refl _⟩, ⟨by first | exact Kd.R_nil _ _ _ _ _ | exact Kd.N_nil _ _ _ _ _ | exact Kd.V_nil _ _ _ _ _ | exact Kd.Q_nil _ _ _ _ _ | exact Kd.S_nil _ _ _ _ _⟩, ⟨by repeat (first | (with_reducible first | exact HB.out | apply bA_ | apply bN_ | apply bD_) | exact HB.out)⟩⟩
 case round =>
  clear H'; (try clear c1); (try clear c2); (try clear p2); (try clear c3); obtain ⟨x9_1, x10_1, rfl, HA, HK1, HO_9, HB⟩ := hrel
  cases gk with
  | zero => exact absurd HA.out (by simp [q25_Dirty.l0])
  | succ k1 =>
   have H := HA.out; clear HA; simp only [q25_Dirty.l0] at H; have HC5 := aM_ H; clear H; (go_upto_region 3 with (fail))
   repeat (go_quiet (fail); go_upto_region 3 with (fail))
   (go_cut [24] (fun v24 wc => ∃ (kq : Nat) (x24_4 : Bool), v24 = .bool x24_4 ∧ Aside0 (q25_Dirty.j1 kq l0 l1 l2 l3 x9_1 x10_1 x24_4 = some r) ∧ Aside0 (kq ≤ k1) ∧ Aside0 (Kd.R (Kd.int .i64) 3 wc w.heap.size (fun _ => True) u9 x9_1) ∧ Aside0 (Below w.heap.size w wc)))
   case first =>
    have H := HC5.out; clear HC5; (by_cases c6 : x10_1 < (l2.length : Int))
    · rw [if_pos c6] at H
      have c6b0 : decide (x10_1 < (l2.length : Int)) = true := decide_eq_true c6; clear c6; (first | rw [c6b0] | (simp only [i64_w, i32_w]; rw [c6b0]) | skip); (by_cases c7 : x10_1 < (l3.length : Int))
      · rw [if_pos c7] at H
        have c7b0 : decide (x10_1 < (l3.length : Int)) = true := decide_eq_true c7; clear c7; replace H := Option.bind_eq_some_iff.mp H; obtain ⟨t426, A80, H⟩ := H; replace H : (q25_Dirty.j1 k1 l0 l1 l2 l3 x9_1 x10_1 t426) = some r := H; have A8 := aM_ A80; clear A80; have H' := aM_ H; clear H; (go_wp2_with (first | (go_at_call 14; (with_reducible refine (q14_Check.calls _ _ l0 t426 _ ?side1 ?side2 A8.out).mono ?_); (case side1 => repeat (first | exact (Kd.C_below HR0.out HB.out) | (with_reducible refine Kd.C_alloc ?_ _) | (with_reducible refine Kd.C_drewN ?_ _) | (with_reducible refine Kd.C_drew ?_))); (case side2 => exact HC0.out); rintro e w9 ⟨rfl, hb⟩; have n0_ := aM_ (Kd.R_below (by (with_reducible repeat (first | apply rA_ | apply rN_ | apply rD_)); exact HO_9.out) hb); have n1_ := aM_ (below_step (by repeat (first | (with_reducible first | exact HB.out | apply bA_ | apply bN_ | apply bD_) | exact HB.out)) hb); clear HO_9; clear HB; have HO_9 := n0_; have HB := n1_; clear n0_ n1_; (try clear hb); (try clear hb2); (try clear hk); (try clear hi))))
        repeat (go_quiet (first | (go_at_call 14; (with_reducible refine (q14_Check.calls _ _ l0 t426 _ ?side1 ?side2 A8.out).mono ?_); (case side1 => repeat (first | exact (Kd.C_below HR0.out HB.out) | (with_reducible refine Kd.C_alloc ?_ _) | (with_reducible refine Kd.C_drewN ?_ _) | (with_reducible refine Kd.C_drew ?_))); (case side2 => exact HC0.out); rintro e w9 ⟨rfl, hb⟩; have n0_ := aM_ (Kd.R_below (by (with_reducible repeat (first | apply rA_ | apply rN_ | apply rD_)); exact HO_9.out) hb); have n1_ := aM_ (below_step (by repeat (first | (with_reducible first | exact HB.out | apply bA_ | apply bN_ | apply bD_) | exact HB.out)) hb); clear HO_9; clear HB; have HO_9 := n0_; have HB := n1_; clear n0_ n1_; (try clear hb); (try clear hb2); (try clear hk); (try clear hi))); try go_wp2_with (first | (go_at_call 14; (with_reducible refine (q14_Check.calls _ _ l0 t426 _ ?side1 ?side2 A8.out).mono ?_); (case side1 => repeat (first | exact (Kd.C_below HR0.out HB.out) | (with_reducible refine Kd.C_alloc ?_ _) | (with_reducible refine Kd.C_drewN ?_ _) | (with_reducible refine Kd.C_drew ?_))); (case side2 => exact HC0.out); rintro e w9 ⟨rfl, hb⟩; have n0_ := aM_ (Kd.R_below (by (with_reducible repeat (first | apply rA_ | apply rN_ | apply rD_)); exact HO_9.out) hb); have n1_ := aM_ (below_step (by repeat (first | (with_reducible first | exact HB.out | apply bA_ | apply bN_ | apply bD_) | exact HB.out)) hb); clear HO_9; clear HB; have HO_9 := n0_; have HB := n1_; clear n0_ n1_; (try clear hb); (try clear hb2); (try clear hk); (try clear hi))))
        (go_meet)
        case rel => exact ⟨_, (t426), (by first | rfl | (simp; done) | (simp [*]; done)), H', ⟨by have := HK1.out; first | omega | exact Nat.le_refl _⟩, ⟨by (with_reducible repeat (first | apply rA_ | apply rN_ | apply rD_)); exact HO_9.out⟩, ⟨by repeat (first | (with_reducible first | exact HB.out | apply bA_ | apply bN_ | apply bD_) | exact HB.out)⟩⟩
      · rw [if_neg c7] at H
        have c7b0 : decide (x10_1 < (l3.length : Int)) = false := decide_eq_false c7; clear c7; have H' := aM_ H; clear H; go_wp2
        repeat (go_quiet (fail); try go_wp2)
        (go_meet)
        case rel => exact ⟨_, (false), (by first | rfl | (simp; done) | (simp [*]; done)), H', ⟨by have := HK1.out; first | omega | exact Nat.le_refl _⟩, ⟨by (with_reducible repeat (first | apply rA_ | apply rN_ | apply rD_)); exact HO_9.out⟩, ⟨by repeat (first | (with_reducible first | exact HB.out | apply bA_ | apply bN_ | apply bD_) | exact HB.out)⟩⟩
    · rw [if_neg c6] at H
      have c6b0 : decide (x10_1 < (l2.length : Int)) = false := decide_eq_false c6; clear c6; (first | rw [c6b0] | (simp only [i64_w, i32_w]; rw [c6b0]) | skip); have H' := aM_ H; clear H; go_wp2
      repeat (go_quiet (fail); try go_wp2)
      (go_meet)
      case rel => exact ⟨_, (false), (by first | rfl | (simp; done) | (simp [*]; done)), H', ⟨by have := HK1.out; first | omega | exact Nat.le_refl _⟩, ⟨by (with_reducible repeat (first | apply rA_ | apply rN_ | apply rD_)); exact HO_9.out⟩, ⟨by repeat (first | (with_reducible first | exact HB.out | apply bA_ | apply bN_ | apply bD_) | exact HB.out)⟩⟩
   case rest =>
    clear HC5; (try clear c1); (try clear c2); (try clear p2); (try clear c3); (try clear c6); (try clear c6b0); (try clear c7); (try clear c7b0); (try clear c8); (try clear p2); obtain ⟨kq, x24_4, rfl, HA, HJ4, HO_9, HB⟩ := hcut
    cases kq with
    | zero => exact absurd HA.out (by simp [q25_Dirty.j1])
    | succ kj4 =>
     have H := HA.out; clear HA; simp only [q25_Dirty.j1] at H; (by_cases c10 : x24_4 = true)
     · subst c10
       (have H1 : (if 0 ≤ x10_1 then (if x10_1 < (l2.length : Int) then (if x10_1 < (l3.length : Int) then ((q25_dirty.f kj4 l0 l1 (rd l2 x10_1) (rd l3 x10_1)).bind fun t429 => (if t429 = true then (if x9_1.length < 17592186044416 then (q25_Dirty.l0 kj4 l0 l1 l2 l3 (x9_1 ++ [rd l2 x10_1]) (wrap64 (x10_1 + 1))) else (none)) else (q25_Dirty.l0 kj4 l0 l1 l2 l3 x9_1 (wrap64 (x10_1 + 1))))) else (none)) else (none)) else (none)) = some r := by rw [if_pos rfl] at H; exact H); clear H; have H := H1; clear H1; (by_cases c11 : 0 ≤ x10_1)
       · rw [if_pos c11] at H
         have c11b0 : decide (0 ≤ x10_1) = true := decide_eq_true c11; clear c11; (by_cases c12 : x10_1 < (l2.length : Int))
         · rw [if_pos c12] at H
           have c12b0 : decide (x10_1 < (l2.length : Int)) = true := decide_eq_true c12; clear c12; (by_cases c13 : x10_1 < (l3.length : Int))
           · rw [if_pos c13] at H
             have c13b0 : decide (x10_1 < (l3.length : Int)) = true := decide_eq_true c13; clear c13; replace H := Option.bind_eq_some_iff.mp H; obtain ⟨t429, A140, H⟩ := H; replace H : (if t429 = true then (if x9_1.length < 17592186044416 then (q25_Dirty.l0 kj4 l0 l1 l2 l3 (x9_1 ++ [rd l2 x10_1]) (wrap64 (x10_1 + 1))) else (none)) else (q25_Dirty.l0 kj4 l0 l1 l2 l3 x9_1 (wrap64 (x10_1 + 1)))) = some r := H; have A14 := aM_ A140; clear A140; (by_cases c15 : t429 = true)
             · subst c15
               (have H1 : (if x9_1.length < 17592186044416 then (q25_Dirty.l0 kj4 l0 l1 l2 l3 (x9_1 ++ [rd l2 x10_1]) (wrap64 (x10_1 + 1))) else (none)) = some r := by rw [if_pos rfl] at H; exact H); clear H; have H := H1; clear H1; (by_cases c16 : x9_1.length < 17592186044416)
               · rw [if_pos c16] at H
                 have LMc16 := aM_ c16; clear c16; obtain ⟨y431, hy431⟩ : ∃ y_ : List Int, y_ = (x9_1 ++ [rd l2 x10_1]) := ⟨_, rfl⟩; (replace H : (q25_Dirty.l0 kj4 l0 l1 l2 l3 y431 (wrap64 (x10_1 + 1))) = some r := by first | (rw [hy431]; with_reducible exact H) | (have H2_ := (Option.bind_some _ _).symm.trans H; rw [hy431]; with_reducible exact H2_) | (have H2_ := (Option.bind_some _ _).symm.trans H; with_reducible exact H2_) | with_reducible exact H | (rw [hy431]; exact H) | exact H); have Ny431 := aM_ hy431; clear hy431; have H' := aM_ H; clear H; have p427 : 0 ≤ (x10_1 : Int) := of_decide_eq_true (by assumption); have q427 : x10_1 < (l2.length : Int) := of_decide_eq_true (by assumption); obtain ⟨ad427, e427, hx427_0⟩ := Kd.at_int HR2.out x10_1 p427 q427; (cases e427); replace hx427_0 := (HB.out.cell (lC_ w _ hx427_0)).trans hx427_0; replace p427 := eq_true p427; replace q427 := eq_true q427; have p428 : 0 ≤ (x10_1 : Int) := of_decide_eq_true (by assumption); have q428 : x10_1 < (l3.length : Int) := of_decide_eq_true (by assumption); obtain ⟨ad428, e428, hx428_0⟩ := Kd.at_int HR3.out x10_1 p428 q428; (cases e428); replace hx428_0 := (HB.out.cell (lC_ w _ hx428_0)).trans hx428_0; replace p428 := eq_true p428; replace q428 := eq_true q428
                 go_wp2_with (first | (go_at_call 22; (with_reducible refine (q25_dirty.calls kj4 _ _ l0 _ _ l1 (rd l2 x10_1) (rd l3 x10_1) true _ ?side1 ?side2 ?side3 ?side4 A14.out).mono ?_); (case side1 => repeat (first | exact (Kd.C_below HR0.out HB.out) | (with_reducible refine Kd.C_alloc ?_ _) | (with_reducible refine Kd.C_drewN ?_ _) | (with_reducible refine Kd.C_drew ?_))); (case side2 => exact HC0.out); (case side3 => repeat (first | exact (Kd.C_below HR1.out HB.out) | (with_reducible refine Kd.C_alloc ?_ _) | (with_reducible refine Kd.C_drewN ?_ _) | (with_reducible refine Kd.C_drew ?_))); (case side4 => exact HC1.out); rintro e w' ⟨rfl, ⟨nd, rfl⟩⟩; (try first | exact ⟨rfl, _, World.drewN_drewN _ _ _⟩ | exact ⟨rfl, _, Eq.trans (World.drewN_drewN _ _ _) (congrArg (World.drewN _) (Nat.add_assoc _ _ _))⟩); have p430 : 0 ≤ (x10_1 : Int) := of_decide_eq_true (by assumption); have q430 : x10_1 < (l2.length : Int) := of_decide_eq_true (by assumption); obtain ⟨ad430, e430, hx430_0⟩ := Kd.at_int HR2.out x10_1 p430 q430; obtain rfl : ad427 = ad430 := (by injection e430); replace hx430_0 := (HB.out.cell (lC_ w _ hx430_0)).trans hx430_0; replace p430 := eq_true p430; replace q430 := eq_true q430) | ((with_reducible refine gate_builtin (b := .append) (xs := #[.tmp 38, .tmp 43]) rfl ?_); (try (refine gate_guard (by rfl) ?_; dsimp only)); at_builtin; refine Kd.R_append (Kd.int .i64) (w0 := w) w.heap.size rfl (.tmp 38) (.tmp 43) 24 3 (.int .i64 0) 8 rfl Tryd.underlying24 info3 rfl (by decide) (by omega) u9 x9_1 (rd l2 x10_1) [.int .i64 (rd l2 x10_1)] (fun _ => True) (fun _ => False) rfl rfl ?aP (fun _ hk => hk.elim) ?aF ?aO ?aB ?aS ?aL ?_; (case aP => exact rfl); (case aB => exact (by repeat (first | (with_reducible first | exact HB.out | apply bA_ | apply bN_ | apply bD_) | exact HB.out))); (case aF => exact (fun _ _ => trivial)); (case aO => exact (by (with_reducible repeat (first | apply rA_ | apply rN_ | apply rD_)); exact HO_9.out)); (case aS => exact (below_size (by repeat (first | (with_reducible first | exact HB.out | apply bA_ | apply bN_ | apply bD_) | exact HB.out)))); (case aL => have := LMc16.out; omega); intro v432 w17 ho hb hg hat; rw [← Ny431.out] at ho; have n0_ := aM_ (hb); have n1_ := aM_ (ho); clear HB; clear HO_9; have HB := n0_; have HO433 := n1_; clear n0_ n1_; clear ho hb hg hat))
                 repeat (go_quiet (first | (go_at_call 22; (with_reducible refine (q25_dirty.calls kj4 _ _ l0 _ _ l1 (rd l2 x10_1) (rd l3 x10_1) true _ ?side1 ?side2 ?side3 ?side4 A14.out).mono ?_); (case side1 => repeat (first | exact (Kd.C_below HR0.out HB.out) | (with_reducible refine Kd.C_alloc ?_ _) | (with_reducible refine Kd.C_drewN ?_ _) | (with_reducible refine Kd.C_drew ?_))); (case side2 => exact HC0.out); (case side3 => repeat (first | exact (Kd.C_below HR1.out HB.out) | (with_reducible refine Kd.C_alloc ?_ _) | (with_reducible refine Kd.C_drewN ?_ _) | (with_reducible refine Kd.C_drew ?_))); (case side4 => exact HC1.out); rintro e w' ⟨rfl, ⟨nd, rfl⟩⟩; (try first | exact ⟨rfl, _, World.drewN_drewN _ _ _⟩ | exact ⟨rfl, _, Eq.trans (World.drewN_drewN _ _ _) (congrArg (World.drewN _) (Nat.add_assoc _ _ _))⟩); have p430 : 0 ≤ (x10_1 : Int) := of_decide_eq_true (by assumption); have q430 : x10_1 < (l2.length : Int) := of_decide_eq_true (by assumption); obtain ⟨ad430, e430, hx430_0⟩ := Kd.at_int HR2.out x10_1 p430 q430; obtain rfl : ad427 = ad430 := (by injection e430); replace hx430_0 := (HB.out.cell (lC_ w _ hx430_0)).trans hx430_0; replace p430 := eq_true p430; replace q430 := eq_true q430) | ((with_reducible refine gate_builtin (b := .append) (xs := #[.tmp 38, .tmp 43]) rfl ?_); (try (refine gate_guard (by rfl) ?_; dsimp only)); at_builtin; refine Kd.R_append (Kd.int .i64) (w0 := w) w.heap.size rfl (.tmp 38) (.tmp 43) 24 3 (.int .i64 0) 8 rfl Tryd.underlying24 info3 rfl (by decide) (by omega) u9 x9_1 (rd l2 x10_1) [.int .i64 (rd l2 x10_1)] (fun _ => True) (fun _ => False) rfl rfl ?aP (fun _ hk => hk.elim) ?aF ?aO ?aB ?aS ?aL ?_; (case aP => exact rfl); (case aB => exact (by repeat (first | (with_reducible first | exact HB.out | apply bA_ | apply bN_ | apply bD_) | exact HB.out))); (case aF => exact (fun _ _ => trivial)); (case aO => exact (by (with_reducible repeat (first | apply rA_ | apply rN_ | apply rD_)); exact HO_9.out)); (case aS => exact (below_size (by repeat (first | (with_reducible first | exact HB.out | apply bA_ | apply bN_ | apply bD_) | exact HB.out)))); (case aL => have := LMc16.out; omega); intro v432 w17 ho hb hg hat; rw [← Ny431.out] at ho; have n0_ := aM_ (hb); have n1_ := aM_ (ho); clear HB; clear HO_9; have HB := n0_; have HO433 := n1_; clear n0_ n1_; clear ho hb hg hat)); try go_wp2_with (first | (go_at_call 22; (with_reducible refine (q25_dirty.calls kj4 _ _ l0 _ _ l1 (rd l2 x10_1) (rd l3 x10_1) true _ ?side1 ?side2 ?side3 ?side4 A14.out).mono ?_); (case side1 => repeat (first | exact (Kd.C_below HR0.out HB.out) | (with_reducible refine Kd.C_alloc ?_ _) | (with_reducible refine Kd.C_drewN ?_ _) | (with_reducible refine Kd.C_drew ?_))); (case side2 => exact HC0.out); (case side3 => repeat (first | exact (Kd.C_below HR1.out HB.out) | (with_reducible refine Kd.C_alloc ?_ _) | (with_reducible refine Kd.C_drewN ?_ _) | (with_reducible refine Kd.C_drew ?_))); (case side4 => exact HC1.out); rintro e w' ⟨rfl, ⟨nd, rfl⟩⟩; (try first | exact ⟨rfl, _, World.drewN_drewN _ _ _⟩ | exact ⟨rfl, _, Eq.trans (World.drewN_drewN _ _ _) (congrArg (World.drewN _) (Nat.add_assoc _ _ _))⟩); have p430 : 0 ≤ (x10_1 : Int) := of_decide_eq_true (by assumption); have q430 : x10_1 < (l2.length : Int) := of_decide_eq_true (by assumption); obtain ⟨ad430, e430, hx430_0⟩ := Kd.at_int HR2.out x10_1 p430 q430; obtain rfl : ad427 = ad430 := (by injection e430); replace hx430_0 := (HB.out.cell (lC_ w _ hx430_0)).trans hx430_0; replace p430 := eq_true p430; replace q430 := eq_true q430) | ((with_reducible refine gate_builtin (b := .append) (xs := #[.tmp 38, .tmp 43]) rfl ?_); (try (refine gate_guard (by rfl) ?_; dsimp only)); at_builtin; refine Kd.R_append (Kd.int .i64) (w0 := w) w.heap.size rfl (.tmp 38) (.tmp 43) 24 3 (.int .i64 0) 8 rfl Tryd.underlying24 info3 rfl (by decide) (by omega) u9 x9_1 (rd l2 x10_1) [.int .i64 (rd l2 x10_1)] (fun _ => True) (fun _ => False) rfl rfl ?aP (fun _ hk => hk.elim) ?aF ?aO ?aB ?aS ?aL ?_; (case aP => exact rfl); (case aB => exact (by repeat (first | (with_reducible first | exact HB.out | apply bA_ | apply bN_ | apply bD_) | exact HB.out))); (case aF => exact (fun _ _ => trivial)); (case aO => exact (by (with_reducible repeat (first | apply rA_ | apply rN_ | apply rD_)); exact HO_9.out)); (case aS => exact (below_size (by repeat (first | (with_reducible first | exact HB.out | apply bA_ | apply bN_ | apply bD_) | exact HB.out)))); (case aL => have := LMc16.out; omega); intro v432 w17 ho hb hg hat; rw [← Ny431.out] at ho; have n0_ := aM_ (hb); have n1_ := aM_ (ho); clear HB; clear HO_9; have HB := n0_; have HO433 := n1_; clear n0_ n1_; clear ho hb hg hat)))
                 (go_roundg kj4)
                 case measure => have := HK1.out; have := HJ4.out; omega
                 case rel => exact ⟨(y431), (wrap64 (x10_1 + 1)), (by first | rfl | (simp; done) | (simp [*]; done)), H', ⟨by have := HK1.out; have := HJ4.out; omega⟩, ⟨by (with_reducible repeat (first | apply rA_ | apply rN_ | apply rD_)); exact HO433.out⟩, ⟨by repeat (first | (with_reducible first | exact HB.out | apply bA_ | apply bN_ | apply bD_) | exact HB.out)⟩⟩
               (· rw [if_neg c16] at H; exact absurd H (by simp))
             · replace c15 := Bool.eq_false_iff.mpr c15
               subst c15; (have H1 : (q25_Dirty.l0 kj4 l0 l1 l2 l3 x9_1 (wrap64 (x10_1 + 1))) = some r := by rw [if_neg (show ¬ (false = true) by decide)] at H; exact H); clear H; have H := H1; clear H1; have H' := aM_ H; clear H; have p427 : 0 ≤ (x10_1 : Int) := of_decide_eq_true (by assumption); have q427 : x10_1 < (l2.length : Int) := of_decide_eq_true (by assumption); obtain ⟨ad427, e427, hx427_0⟩ := Kd.at_int HR2.out x10_1 p427 q427; (cases e427); replace hx427_0 := (HB.out.cell (lC_ w _ hx427_0)).trans hx427_0; replace p427 := eq_true p427; replace q427 := eq_true q427; have p428 : 0 ≤ (x10_1 : Int) := of_decide_eq_true (by assumption); have q428 : x10_1 < (l3.length : Int) := of_decide_eq_true (by assumption); obtain ⟨ad428, e428, hx428_0⟩ := Kd.at_int HR3.out x10_1 p428 q428; (cases e428); replace hx428_0 := (HB.out.cell (lC_ w _ hx428_0)).trans hx428_0; replace p428 := eq_true p428; replace q428 := eq_true q428; (go_wp2_with (first | (go_at_call 22; (with_reducible refine (q25_dirty.calls kj4 _ _ l0 _ _ l1 (rd l2 x10_1) (rd l3 x10_1) false _ ?side1 ?side2 ?side3 ?side4 A14.out).mono ?_); (case side1 => repeat (first | exact (Kd.C_below HR0.out HB.out) | (with_reducible refine Kd.C_alloc ?_ _) | (with_reducible refine Kd.C_drewN ?_ _) | (with_reducible refine Kd.C_drew ?_))); (case side2 => exact HC0.out); (case side3 => repeat (first | exact (Kd.C_below HR1.out HB.out) | (with_reducible refine Kd.C_alloc ?_ _) | (with_reducible refine Kd.C_drewN ?_ _) | (with_reducible refine Kd.C_drew ?_))); (case side4 => exact HC1.out); rintro e w' ⟨rfl, ⟨nd, rfl⟩⟩; (try first | exact ⟨rfl, _, World.drewN_drewN _ _ _⟩ | exact ⟨rfl, _, Eq.trans (World.drewN_drewN _ _ _) (congrArg (World.drewN _) (Nat.add_assoc _ _ _))⟩))))
               repeat (go_quiet (first | (go_at_call 22; (with_reducible refine (q25_dirty.calls kj4 _ _ l0 _ _ l1 (rd l2 x10_1) (rd l3 x10_1) false _ ?side1 ?side2 ?side3 ?side4 A14.out).mono ?_); (case side1 => repeat (first | exact (Kd.C_below HR0.out HB.out) | (with_reducible refine Kd.C_alloc ?_ _) | (with_reducible refine Kd.C_drewN ?_ _) | (with_reducible refine Kd.C_drew ?_))); (case side2 => exact HC0.out); (case side3 => repeat (first | exact (Kd.C_below HR1.out HB.out) | (with_reducible refine Kd.C_alloc ?_ _) | (with_reducible refine Kd.C_drewN ?_ _) | (with_reducible refine Kd.C_drew ?_))); (case side4 => exact HC1.out); rintro e w' ⟨rfl, ⟨nd, rfl⟩⟩; (try first | exact ⟨rfl, _, World.drewN_drewN _ _ _⟩ | exact ⟨rfl, _, Eq.trans (World.drewN_drewN _ _ _) (congrArg (World.drewN _) (Nat.add_assoc _ _ _))⟩))); try go_wp2_with (first | (go_at_call 22; (with_reducible refine (q25_dirty.calls kj4 _ _ l0 _ _ l1 (rd l2 x10_1) (rd l3 x10_1) false _ ?side1 ?side2 ?side3 ?side4 A14.out).mono ?_); (case side1 => repeat (first | exact (Kd.C_below HR0.out HB.out) | (with_reducible refine Kd.C_alloc ?_ _) | (with_reducible refine Kd.C_drewN ?_ _) | (with_reducible refine Kd.C_drew ?_))); (case side2 => exact HC0.out); (case side3 => repeat (first | exact (Kd.C_below HR1.out HB.out) | (with_reducible refine Kd.C_alloc ?_ _) | (with_reducible refine Kd.C_drewN ?_ _) | (with_reducible refine Kd.C_drew ?_))); (case side4 => exact HC1.out); rintro e w' ⟨rfl, ⟨nd, rfl⟩⟩; (try first | exact ⟨rfl, _, World.drewN_drewN _ _ _⟩ | exact ⟨rfl, _, Eq.trans (World.drewN_drewN _ _ _) (congrArg (World.drewN _) (Nat.add_assoc _ _ _))⟩))))
               (go_roundg kj4)
               case measure => have := HK1.out; have := HJ4.out; omega
               case rel => exact ⟨(x9_1), (wrap64 (x10_1 + 1)), (by first | rfl | (simp; done) | (simp [*]; done)), H', ⟨by have := HK1.out; have := HJ4.out; omega⟩, ⟨by (with_reducible repeat (first | apply rA_ | apply rN_ | apply rD_)); exact HO_9.out⟩, ⟨by repeat (first | (with_reducible first | exact HB.out | apply bA_ | apply bN_ | apply bD_) | exact HB.out)⟩⟩
           (· rw [if_neg c13] at H; exact absurd H (by simp))
         (· rw [if_neg c12] at H; exact absurd H (by simp))
       (· rw [if_neg c11] at H; exact absurd H (by simp))
     · replace c10 := Bool.eq_false_iff.mpr c10
       subst c10; (have H1 : (some x9_1) = some r := by rw [if_neg (show ¬ (false = true) by decide)] at H; exact H); clear H; have H := H1; clear H1; obtain rfl := Option.some.inj H; simp only [Option.some.injEq, Prod.mk.injEq] at H; obtain ⟨rfl⟩ := H; go_wp2
       repeat (go_quiet (fail); try go_wp2)
       go_ret; (exact ⟨_, by first | rfl | (simp [errW_none, errW_some] <;> rfl) | (simp [*, errW_none, errW_some] <;> rfl), by (with_reducible repeat (first | apply rA_ | apply rN_ | apply rD_)); exact HO_9.out, by repeat (first | (with_reducible first | exact HB.out | apply bA_ | apply bN_ | apply bD_) | exact HB.out)⟩)
mutual
def q25_Live.l0 : Nat → List (S36) → List ByteArray → Int → List ByteArray → Int → Option (List ByteArray)
  | 0, _, _, _, _, _ => none
  | k + 1, x0, x1, x2, x7, x8 => if x8 < (x0.length : Int) then ((q14_Check.f x0).bind fun t434 => (q25_Live.j1 k x0 x1 x2 x7 x8 t434)) else (q25_Live.j1 k x0 x1 x2 x7 x8 false)
def q25_Live.j1 : Nat → List (S36) → List ByteArray → Int → List ByteArray → Int → Bool → Option (List ByteArray)
  | 0, _, _, _, _, _, _ => none
  | k + 1, x0, x1, x2, x7, x8, x16 => if x16 = true then (if 0 ≤ x8 then (if x8 < (x0.length : Int) then (if ((rd_T36 x0 x8).f1) = x2 then ((q07_Find.f k x1 ((rd_T36 x0 x8).f0)).bind fun t437 => (if t437 ≥ 0 then (if x7.length < 8796093022208 then (q25_Live.l0 k x0 x1 x2 (x7 ++ [(rd_T36 x0 x8).f0]) (wrap64 (x8 + 1))) else (none)) else (q25_Live.l0 k x0 x1 x2 x7 (wrap64 (x8 + 1))))) else (q25_Live.l0 k x0 x1 x2 x7 (wrap64 (x8 + 1)))) else (none)) else (none)) else (some x7)
end
def q25_Live.f (k : Nat) (l0 : List (S36)) (l1 : List ByteArray) (a2 : Int) : Option (List ByteArray) := q25_Live.l0 k l0 l1 a2 ([] : List ByteArray) 0
theorem q25_Live.mono_l : ∀ k, (∀ y0 y1 y2 y3 y4, LeO (q25_Live.l0 k y0 y1 y2 y3 y4) (q25_Live.l0 (k + 1) y0 y1 y2 y3 y4)) ∧ (∀ y0 y1 y2 y3 y4 y5, LeO (q25_Live.j1 k y0 y1 y2 y3 y4 y5) (q25_Live.j1 (k + 1) y0 y1 y2 y3 y4 y5))
  | 0 => ⟨fun _ _ _ _ _ r h => by simp [q25_Live.l0] at h, fun _ _ _ _ _ _ r h => by simp [q25_Live.j1] at h⟩
  | k + 1 => by
    obtain ⟨ih0, ih1⟩ := q25_Live.mono_l k
    refine ⟨?_, ?_⟩
    · intro y0 y1 y2 y3 y4
      unfold q25_Live.l0
      repeat' first
      | (with_reducible exact ih0 _ _ _ _ _)
      | (with_reducible exact ih1 _ _ _ _ _ _)
      | (with_reducible exact q07_Find.mono _ _ _)
      | (with_reducible exact LeO.refl _)
      | (with_reducible exact LeO.none _)
      | (with_reducible refine LeO.ite ?_ ?_)
      | (with_reducible refine LeO.bind ?_ (fun _ => ?_))
      | exact ih0 _ _ _ _ _
      | exact ih1 _ _ _ _ _ _
      | exact LeO.none _
      | refine LeO.ite ?_ ?_
      | refine LeO.bind ?_ (fun _ => ?_)
    · intro y0 y1 y2 y3 y4 y5
      unfold q25_Live.j1
      repeat' first
      | (with_reducible exact ih0 _ _ _ _ _)
      | (with_reducible exact ih1 _ _ _ _ _ _)
      | (with_reducible exact q07_Find.mono _ _ _)
      | (with_reducible exact LeO.refl _)
      | (with_reducible exact LeO.none _)
      | (with_reducible refine LeO.ite ?_ ?_)
      | (with_reducible refine LeO.bind ?_ (fun _ => ?_))
      | exact ih0 _ _ _ _ _
      | exact ih1 _ _ _ _ _ _
      | exact LeO.none _
      | refine LeO.ite ?_ ?_
      | refine LeO.bind ?_ (fun _ => ?_)
theorem q25_Live.mono : ∀ a0 a1 a2 k, LeO (q25_Live.f k a0 a1 a2) (q25_Live.f (k + 1) a0 a1 a2) := by
 intro a0 a1 a2 k; obtain ⟨ih0, ih1⟩ := q25_Live.mono_l k; unfold q25_Live.f
 repeat' first
     | (with_reducible exact ih0 _ _ _ _ _)
     | (with_reducible exact ih1 _ _ _ _ _ _)
     | (with_reducible exact q07_Find.mono _ _ _)
     | (with_reducible exact LeO.refl _)
     | (with_reducible exact LeO.none _)
     | (with_reducible refine LeO.ite ?_ ?_)
     | (with_reducible refine LeO.bind ?_ (fun _ => ?_))
     | exact ih0 _ _ _ _ _
     | exact ih1 _ _ _ _ _ _
     | exact LeO.none _
     | refine LeO.ite ?_ ?_
     | refine LeO.bind ?_ (fun _ => ?_)
set_option maxHeartbeats 8000000 in
set_option maxRecDepth 100000 in
theorem q25_Live.calls (k : Nat) (A0 : Option Addr) (c0 : Nat) (l0 : List (S36)) (A1 : Option Addr) (c1 : Nat) (l1 : List ByteArray) (a2 : Int) (r : List ByteArray) (w : World) (hr0 : Kd.C k36 w A0 l0.length l0) (hc0 : l0.length ≤ c0) (hr1 : Kd.C Kd.string w A1 l1.length l1) (hc1 : l1.length ≤ c1) (h : q25_Live.f k l0 l1 a2 = some r) :
    Calls Tryd.prog 11 #[.slice A0 l0.length c0, .slice A1 l1.length c1, .int .i64 a2] w fun e w' => ∃ v0_ : Value, e = .returned (v0_) ∧ Kd.R Kd.string 34 w' w.heap.size (fun _ => True) v0_ r ∧ Below w.heap.size w w' := by
 have HR0 := aM_ hr0; have HC0 := aM_ hc0; clear hr0 hc0; have HR1 := aM_ hr1; have HC1 := aM_ hc1; clear hr1 hc1; have HB := aM_ (Below.refl w.heap.size w); have H : (q25_Live.l0 k l0 l1 a2 ([] : List ByteArray) 0) = some r := h; clear h; have H' := aM_ H; clear H; (go_enter Tryd.func11, Tryd.ntmps11); go_wp2; (go_loopg [7, 8] k (fun kq v7 v8 w' => ∃ (x7_1 : List ByteArray) (x8_1 : Int), v8 = .int .i64 x8_1 ∧ Aside0 (q25_Live.l0 kq l0 l1 a2 x7_1 x8_1 = some r) ∧ Aside0 (kq ≤ k) ∧ Aside0 (Kd.R Kd.string 34 w' w.heap.size (fun _ => True) v7 x7_1) ∧ Aside0 (Below w.heap.size w w')))
 case atStart => exact ⟨(([] : List ByteArray)), (0), (by first | rfl | (simp; done) | (simp [*]; done)), H', ⟨Nat.le_refl _⟩, ⟨by first | exact Kd.R_nil _ _ _ _ _ | exact Kd.N_nil _ _ _ _ _ | exact Kd.V_nil _ _ _ _ _ | exact Kd.Q_nil _ _ _ _ _ | exact Kd.S_nil _ _ _ _ _⟩, ⟨by repeat (first | (with_reducible first | exact HB.out | apply bA_ | apply bN_ | apply bD_) | exact HB.out)⟩⟩
 case round =>
  clear H'; (try clear c1); (try clear p2); obtain ⟨x7_1, x8_1, rfl, HA, HK1, HO_7, HB⟩ := hrel
  cases gk with
  | zero => exact absurd HA.out (by simp [q25_Live.l0])
  | succ k1 =>
   have H := HA.out; clear HA; simp only [q25_Live.l0] at H; have HC4 := aM_ H; clear H; (go_upto_region 3 with (fail)); (go_cut [16] (fun v16 wc => ∃ (kq : Nat) (x16_3 : Bool), v16 = .bool x16_3 ∧ Aside0 (q25_Live.j1 kq l0 l1 a2 x7_1 x8_1 x16_3 = some r) ∧ Aside0 (kq ≤ k1) ∧ Aside0 (Kd.R Kd.string 34 wc w.heap.size (fun _ => True) u7 x7_1) ∧ Aside0 (Below w.heap.size w wc)))
   case first =>
    have H := HC4.out; clear HC4; (by_cases c5 : x8_1 < (l0.length : Int))
    · rw [if_pos c5] at H
      have c5b0 : decide (x8_1 < (l0.length : Int)) = true := decide_eq_true c5; clear c5; (first | rw [c5b0] | (simp only [i64_w, i32_w]; rw [c5b0]) | skip); replace H := Option.bind_eq_some_iff.mp H; obtain ⟨t434, A60, H⟩ := H; replace H : (q25_Live.j1 k1 l0 l1 a2 x7_1 x8_1 t434) = some r := H; have A6 := aM_ A60; clear A60; have H' := aM_ H; clear H; (go_wp2_with (first | (go_at_call 14; (with_reducible refine (q14_Check.calls _ _ l0 t434 _ ?side1 ?side2 A6.out).mono ?_); (case side1 => repeat (first | exact (Kd.C_below HR0.out HB.out) | (with_reducible refine Kd.C_alloc ?_ _) | (with_reducible refine Kd.C_drewN ?_ _) | (with_reducible refine Kd.C_drew ?_))); (case side2 => exact HC0.out); rintro e w7 ⟨rfl, hb⟩; have n0_ := aM_ (Kd.R_below (by (with_reducible repeat (first | apply rA_ | apply rN_ | apply rD_)); exact HO_7.out) hb); have n1_ := aM_ (below_step (by repeat (first | (with_reducible first | exact HB.out | apply bA_ | apply bN_ | apply bD_) | exact HB.out)) hb); clear HO_7; clear HB; have HO_7 := n0_; have HB := n1_; clear n0_ n1_; (try clear hb); (try clear hb2); (try clear hk); (try clear hi)))); (go_meet)
      case rel => exact ⟨_, (t434), (by first | rfl | (simp; done) | (simp [*]; done)), H', ⟨by have := HK1.out; first | omega | exact Nat.le_refl _⟩, ⟨by (with_reducible repeat (first | apply rA_ | apply rN_ | apply rD_)); exact HO_7.out⟩, ⟨by repeat (first | (with_reducible first | exact HB.out | apply bA_ | apply bN_ | apply bD_) | exact HB.out)⟩⟩
    · rw [if_neg c5] at H
      have c5b0 : decide (x8_1 < (l0.length : Int)) = false := decide_eq_false c5; clear c5; (first | rw [c5b0] | (simp only [i64_w, i32_w]; rw [c5b0]) | skip); have H' := aM_ H; clear H; go_wp2; (go_meet)
      case rel => exact ⟨_, (false), (by first | rfl | (simp; done) | (simp [*]; done)), H', ⟨by have := HK1.out; first | omega | exact Nat.le_refl _⟩, ⟨by (with_reducible repeat (first | apply rA_ | apply rN_ | apply rD_)); exact HO_7.out⟩, ⟨by repeat (first | (with_reducible first | exact HB.out | apply bA_ | apply bN_ | apply bD_) | exact HB.out)⟩⟩
   case rest =>
    clear HC4; (try clear c1); (try clear p2); (try clear c5); (try clear c5b0); (try clear p2); obtain ⟨kq, x16_3, rfl, HA, HJ3, HO_7, HB⟩ := hcut
    cases kq with
    | zero => exact absurd HA.out (by simp [q25_Live.j1])
    | succ kj3 =>
     have H := HA.out; clear HA; simp only [q25_Live.j1] at H; (by_cases c8 : x16_3 = true)
     · subst c8
       (have H1 : (if 0 ≤ x8_1 then (if x8_1 < (l0.length : Int) then (if ((rd_T36 l0 x8_1).f1) = a2 then ((q07_Find.f kj3 l1 ((rd_T36 l0 x8_1).f0)).bind fun t437 => (if t437 ≥ 0 then (if x7_1.length < 8796093022208 then (q25_Live.l0 kj3 l0 l1 a2 (x7_1 ++ [(rd_T36 l0 x8_1).f0]) (wrap64 (x8_1 + 1))) else (none)) else (q25_Live.l0 kj3 l0 l1 a2 x7_1 (wrap64 (x8_1 + 1))))) else (q25_Live.l0 kj3 l0 l1 a2 x7_1 (wrap64 (x8_1 + 1)))) else (none)) else (none)) = some r := by rw [if_pos rfl] at H; exact H); clear H; have H := H1; clear H1; (by_cases c9 : 0 ≤ x8_1)
       · rw [if_pos c9] at H
         have c9b0 : decide (0 ≤ x8_1) = true := decide_eq_true c9; clear c9; (by_cases c10 : x8_1 < (l0.length : Int))
         · rw [if_pos c10] at H
           have c10b0 : decide (x8_1 < (l0.length : Int)) = true := decide_eq_true c10; clear c10; (by_cases c11 : ((rd_T36 l0 x8_1).f1) = a2)
           · rw [if_pos c11] at H
             have c11b0 : (((rd_T36 l0 x8_1).f1) == a2) = true := beq_iff_eq.mpr c11; have c11b1 : (((rd_T36 l0 x8_1).f1) != a2) = false := bne_eq_false_iff_eq.mpr c11; clear c11; replace H := Option.bind_eq_some_iff.mp H; obtain ⟨t437, A120, H⟩ := H; replace H : (if t437 ≥ 0 then (if x7_1.length < 8796093022208 then (q25_Live.l0 kj3 l0 l1 a2 (x7_1 ++ [(rd_T36 l0 x8_1).f0]) (wrap64 (x8_1 + 1))) else (none)) else (q25_Live.l0 kj3 l0 l1 a2 x7_1 (wrap64 (x8_1 + 1)))) = some r := H; have A12 := aM_ A120; clear A120; (by_cases c13 : t437 ≥ 0)
             · rw [if_pos c13] at H
               have c13b0 : decide (0 ≤ t437) = true := decide_eq_true c13; clear c13; (by_cases c14 : x7_1.length < 8796093022208)
               · rw [if_pos c14] at H
                 have LMc14 := aM_ c14; clear c14; obtain ⟨y439, hy439⟩ : ∃ y_ : List ByteArray, y_ = (x7_1 ++ [(rd_T36 l0 x8_1).f0]) := ⟨_, rfl⟩; (replace H : (q25_Live.l0 kj3 l0 l1 a2 y439 (wrap64 (x8_1 + 1))) = some r := by first | (rw [hy439]; with_reducible exact H) | (have H2_ := (Option.bind_some _ _).symm.trans H; rw [hy439]; with_reducible exact H2_) | (have H2_ := (Option.bind_some _ _).symm.trans H; with_reducible exact H2_) | with_reducible exact H | (rw [hy439]; exact H) | exact H); have Ny439 := aM_ hy439; clear hy439; have H' := aM_ H; clear H; have p435 : 0 ≤ (x8_1 : Int) := of_decide_eq_true (by assumption); have q435 : x8_1 < (l0.length : Int) := of_decide_eq_true (by assumption); obtain ⟨ad435, e435, hx435_0, hx435_1, hx435_2, hx435_3, hx435_4⟩ := at_T36 HR0.out x8_1 p435 q435; (cases e435); replace hx435_0 := (HB.out.cell (lC_ w _ hx435_0)).trans hx435_0; replace hx435_1 := (HB.out.cell (lC_ w _ hx435_1)).trans hx435_1; replace hx435_2 := (HB.out.cell (lC_ w _ hx435_2)).trans hx435_2; replace hx435_3 := (HB.out.cell (lC_ w _ hx435_3)).trans hx435_3; replace hx435_4 := (HB.out.cell (lC_ w _ hx435_4)).trans hx435_4; replace p435 := eq_true p435; replace q435 := eq_true q435; have p436 : 0 ≤ (x8_1 : Int) := of_decide_eq_true (by assumption); have q436 : x8_1 < (l0.length : Int) := of_decide_eq_true (by assumption); obtain ⟨ad436, e436, hx436_0, hx436_1, hx436_2, hx436_3, hx436_4⟩ := at_T36 HR0.out x8_1 p436 q436; obtain rfl : ad435 = ad436 := (by injection e436); replace hx436_0 := (HB.out.cell (lC_ w _ hx436_0)).trans hx436_0; replace hx436_1 := (HB.out.cell (lC_ w _ hx436_1)).trans hx436_1; replace hx436_2 := (HB.out.cell (lC_ w _ hx436_2)).trans hx436_2; replace hx436_3 := (HB.out.cell (lC_ w _ hx436_3)).trans hx436_3; replace hx436_4 := (HB.out.cell (lC_ w _ hx436_4)).trans hx436_4; replace p436 := eq_true p436; replace q436 := eq_true q436
                 go_wp2_with (first | (go_at_call 15; (with_reducible refine (q07_Find.calls kj3 _ _ l1 ((rd_T36 l0 x8_1).f0) t437 _ ?side1 ?side2 A12.out).mono ?_); (case side1 => repeat (first | exact (Kd.C_below HR1.out HB.out) | (with_reducible refine Kd.C_alloc ?_ _) | (with_reducible refine Kd.C_drewN ?_ _) | (with_reducible refine Kd.C_drew ?_))); (case side2 => exact HC1.out); rintro e w' ⟨rfl, ⟨nd, rfl⟩⟩; have p438 : 0 ≤ (x8_1 : Int) := of_decide_eq_true (by assumption); have q438 : x8_1 < (l0.length : Int) := of_decide_eq_true (by assumption); obtain ⟨ad438, e438, hx438_0, hx438_1, hx438_2, hx438_3, hx438_4⟩ := at_T36 HR0.out x8_1 p438 q438; obtain rfl : ad435 = ad438 := (by injection e438); replace hx438_0 := (HB.out.cell (lC_ w _ hx438_0)).trans hx438_0; replace hx438_1 := (HB.out.cell (lC_ w _ hx438_1)).trans hx438_1; replace hx438_2 := (HB.out.cell (lC_ w _ hx438_2)).trans hx438_2; replace hx438_3 := (HB.out.cell (lC_ w _ hx438_3)).trans hx438_3; replace hx438_4 := (HB.out.cell (lC_ w _ hx438_4)).trans hx438_4; replace p438 := eq_true p438; replace q438 := eq_true q438) | ((with_reducible refine gate_builtin (b := .append) (xs := #[.tmp 36, .tmp 42]) rfl ?_); at_builtin; refine Kd.R_append Kd.string (w0 := w) w.heap.size rfl (.tmp 36) (.tmp 42) 23 34 (.string ⟨#[]⟩) 16 rfl Tryd.underlying23 info34 rfl (by decide) (by omega) u7 x7_1 ((rd_T36 l0 x8_1).f0) [.string ((rd_T36 l0 x8_1).f0)] (fun _ => True) (fun _ => False) rfl rfl ?aP (fun _ hk => hk.elim) ?aF ?aO ?aB ?aS ?aL ?_; (case aP => exact rfl); (case aB => exact (by repeat (first | (with_reducible first | exact HB.out | apply bA_ | apply bN_ | apply bD_) | exact HB.out))); (case aF => exact (fun _ _ => trivial)); (case aO => exact (by (with_reducible repeat (first | apply rA_ | apply rN_ | apply rD_)); exact HO_7.out)); (case aS => exact (below_size (by repeat (first | (with_reducible first | exact HB.out | apply bA_ | apply bN_ | apply bD_) | exact HB.out)))); (case aL => have := LMc14.out; omega); intro v440 w15 ho hb hg hat; rw [← Ny439.out] at ho; have n0_ := aM_ (hb); have n1_ := aM_ (ho); clear HB; clear HO_7; have HB := n0_; have HO441 := n1_; clear n0_ n1_; clear ho hb hg hat))
                 (go_roundg kj3)
                 case measure => have := HK1.out; have := HJ3.out; omega
                 case rel => exact ⟨(y439), (wrap64 (x8_1 + 1)), (by first | rfl | (simp; done) | (simp [*]; done)), H', ⟨by have := HK1.out; have := HJ3.out; omega⟩, ⟨by (with_reducible repeat (first | apply rA_ | apply rN_ | apply rD_)); exact HO441.out⟩, ⟨by repeat (first | (with_reducible first | exact HB.out | apply bA_ | apply bN_ | apply bD_) | exact HB.out)⟩⟩
               (· rw [if_neg c14] at H; exact absurd H (by simp))
             · rw [if_neg c13] at H
               have c13b0 : decide (0 ≤ t437) = false := decide_eq_false c13; clear c13; have H' := aM_ H; clear H; have p435 : 0 ≤ (x8_1 : Int) := of_decide_eq_true (by assumption); have q435 : x8_1 < (l0.length : Int) := of_decide_eq_true (by assumption); obtain ⟨ad435, e435, hx435_0, hx435_1, hx435_2, hx435_3, hx435_4⟩ := at_T36 HR0.out x8_1 p435 q435; (cases e435); replace hx435_0 := (HB.out.cell (lC_ w _ hx435_0)).trans hx435_0; replace hx435_1 := (HB.out.cell (lC_ w _ hx435_1)).trans hx435_1; replace hx435_2 := (HB.out.cell (lC_ w _ hx435_2)).trans hx435_2; replace hx435_3 := (HB.out.cell (lC_ w _ hx435_3)).trans hx435_3; replace hx435_4 := (HB.out.cell (lC_ w _ hx435_4)).trans hx435_4; replace p435 := eq_true p435; replace q435 := eq_true q435; have p436 : 0 ≤ (x8_1 : Int) := of_decide_eq_true (by assumption); have q436 : x8_1 < (l0.length : Int) := of_decide_eq_true (by assumption); obtain ⟨ad436, e436, hx436_0, hx436_1, hx436_2, hx436_3, hx436_4⟩ := at_T36 HR0.out x8_1 p436 q436; obtain rfl : ad435 = ad436 := (by injection e436); replace hx436_0 := (HB.out.cell (lC_ w _ hx436_0)).trans hx436_0; replace hx436_1 := (HB.out.cell (lC_ w _ hx436_1)).trans hx436_1; replace hx436_2 := (HB.out.cell (lC_ w _ hx436_2)).trans hx436_2; replace hx436_3 := (HB.out.cell (lC_ w _ hx436_3)).trans hx436_3; replace hx436_4 := (HB.out.cell (lC_ w _ hx436_4)).trans hx436_4; replace p436 := eq_true p436; replace q436 := eq_true q436; (go_wp2_with (first | (go_at_call 15; (with_reducible refine (q07_Find.calls kj3 _ _ l1 ((rd_T36 l0 x8_1).f0) t437 _ ?side1 ?side2 A12.out).mono ?_); (case side1 => repeat (first | exact (Kd.C_below HR1.out HB.out) | (with_reducible refine Kd.C_alloc ?_ _) | (with_reducible refine Kd.C_drewN ?_ _) | (with_reducible refine Kd.C_drew ?_))); (case side2 => exact HC1.out); rintro e w' ⟨rfl, ⟨nd, rfl⟩⟩))); (go_roundg kj3)
               case measure => have := HK1.out; have := HJ3.out; omega
               case rel => exact ⟨(x7_1), (wrap64 (x8_1 + 1)), (by first | rfl | (simp; done) | (simp [*]; done)), H', ⟨by have := HK1.out; have := HJ3.out; omega⟩, ⟨by (with_reducible repeat (first | apply rA_ | apply rN_ | apply rD_)); exact HO_7.out⟩, ⟨by repeat (first | (with_reducible first | exact HB.out | apply bA_ | apply bN_ | apply bD_) | exact HB.out)⟩⟩
           · rw [if_neg c11] at H
             have c11b0 : (((rd_T36 l0 x8_1).f1) == a2) = false := beq_eq_false_iff_ne.mpr c11; have c11b1 : (((rd_T36 l0 x8_1).f1) != a2) = true := bne_iff_ne.mpr c11; have H' := aM_ H; clear H; have p435 : 0 ≤ (x8_1 : Int) := of_decide_eq_true (by assumption); have q435 : x8_1 < (l0.length : Int) := of_decide_eq_true (by assumption); obtain ⟨ad435, e435, hx435_0, hx435_1, hx435_2, hx435_3, hx435_4⟩ := at_T36 HR0.out x8_1 p435 q435; (cases e435); replace hx435_0 := (HB.out.cell (lC_ w _ hx435_0)).trans hx435_0; replace hx435_1 := (HB.out.cell (lC_ w _ hx435_1)).trans hx435_1; replace hx435_2 := (HB.out.cell (lC_ w _ hx435_2)).trans hx435_2; replace hx435_3 := (HB.out.cell (lC_ w _ hx435_3)).trans hx435_3; replace hx435_4 := (HB.out.cell (lC_ w _ hx435_4)).trans hx435_4; replace p435 := eq_true p435; replace q435 := eq_true q435; go_wp2; (go_roundg kj3)
             case measure => have := HK1.out; have := HJ3.out; omega
             case rel => exact ⟨(x7_1), (wrap64 (x8_1 + 1)), (by first | rfl | (simp; done) | (simp [*]; done)), H', ⟨by have := HK1.out; have := HJ3.out; omega⟩, ⟨by (with_reducible repeat (first | apply rA_ | apply rN_ | apply rD_)); exact HO_7.out⟩, ⟨by repeat (first | (with_reducible first | exact HB.out | apply bA_ | apply bN_ | apply bD_) | exact HB.out)⟩⟩
         (· rw [if_neg c10] at H; exact absurd H (by simp))
       (· rw [if_neg c9] at H; exact absurd H (by simp))
     (· replace c8 := Bool.eq_false_iff.mpr c8; subst c8; (have H1 : (some x7_1) = some r := by rw [if_neg (show ¬ (false = true) by decide)] at H; exact H); clear H; have H := H1; clear H1; obtain rfl := Option.some.inj H; simp only [Option.some.injEq, Prod.mk.injEq] at H; obtain ⟨rfl⟩ := H; go_wp2; go_ret; (exact ⟨_, by first | rfl | (simp [errW_none, errW_some] <;> rfl) | (simp [*, errW_none, errW_some] <;> rfl), by (with_reducible repeat (first | apply rA_ | apply rN_ | apply rD_)); exact HO_7.out, by repeat (first | (with_reducible first | exact HB.out | apply bA_ | apply bN_ | apply bD_) | exact HB.out)⟩))
end Go.Proofs.YtoobchhfcobbpaaDoor.Fn
