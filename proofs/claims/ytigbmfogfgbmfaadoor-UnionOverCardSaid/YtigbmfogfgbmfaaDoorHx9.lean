import Derived.Test.YtigbmfogfgbmfaaDoorHx0
namespace Go.Proofs.YtigbmfogfgbmfaaDoor.Fn
set_option maxHeartbeats 8000000
set_option maxRecDepth 100000
open Go.RowKit Go.Proofs.YtigbmfogfgbmfaaDoorW.PrintWords Go.Proofs.YtigbmfogfgbmfaaDoorW.PrintLast Go.Proofs.YtigbmfogfgbmfaaDoorW.PrintMore
attribute [local go_sem] max2_int min2_int max_two min_two max_three min_three max_four min_four
set_option linter.unusedVariables false
set_option linter.unusedSimpArgs false
mutual
def q21_both.l0 : Nat → List ByteArray → List ByteArray → List ByteArray → Int → Int → Option (List ByteArray)
  | 0, _, _, _, _, _ => none
  | k + 1, x0, x1, x5, x6, x7 => if x6 < (x0.length : Int) then (q21_both.j1 k x0 x1 x5 x6 x7 true) else (q21_both.j1 k x0 x1 x5 x6 x7 (decide (x7 < (x1.length : Int))))
def q21_both.j1 : Nat → List ByteArray → List ByteArray → List ByteArray → Int → Int → Bool → Option (List ByteArray)
  | 0, _, _, _, _, _, _ => none
  | k + 1, x0, x1, x5, x6, x7, x17 => if x17 = true then (if x7 = (x1.length : Int) then (q21_both.j2 k x0 x1 x5 x6 x7 true) else (if x6 < (x0.length : Int) then (if 0 ≤ x6 then (if 0 ≤ x7 then (if x7 < (x1.length : Int) then (q21_both.j2 k x0 x1 x5 x6 x7 (Op.bytesLess ((rdOf ByteArray.empty x0 x6).toList) ((rdOf ByteArray.empty x1 x7).toList))) else (none)) else (none)) else (none)) else (q21_both.j2 k x0 x1 x5 x6 x7 false))) else (some x5)
def q21_both.j2 : Nat → List ByteArray → List ByteArray → List ByteArray → Int → Int → Bool → Option (List ByteArray)
  | 0, _, _, _, _, _, _ => none
  | k + 1, x0, x1, x5, x6, x7, x29 => if x29 = true then (if 0 ≤ x6 then (if x6 < (x0.length : Int) then (if x5.length < 8796093022208 then (q21_both.l0 k x0 x1 (x5 ++ [rdOf ByteArray.empty x0 x6]) (wrap64 (x6 + 1)) x7) else (none)) else (none)) else (none)) else (if x6 = (x0.length : Int) then (if 0 ≤ x7 then (if x7 < (x1.length : Int) then (if x5.length < 8796093022208 then (q21_both.l0 k x0 x1 (x5 ++ [rdOf ByteArray.empty x1 x7]) x6 (wrap64 (x7 + 1))) else (none)) else (none)) else (none)) else (if 0 ≤ x7 then (if x7 < (x1.length : Int) then (if 0 ≤ x6 then (if x6 < (x0.length : Int) then (if (Op.bytesLess ((rdOf ByteArray.empty x1 x7).toList) ((rdOf ByteArray.empty x0 x6).toList)) = true then (if x5.length < 8796093022208 then (q21_both.l0 k x0 x1 (x5 ++ [rdOf ByteArray.empty x1 x7]) x6 (wrap64 (x7 + 1))) else (none)) else (if x5.length < 8796093022208 then (q21_both.l0 k x0 x1 (x5 ++ [rdOf ByteArray.empty x0 x6]) (wrap64 (x6 + 1)) (wrap64 (x7 + 1))) else (none))) else (none)) else (none)) else (none)) else (none)))
end
def q21_both.f (k : Nat) (l0 : List ByteArray) (l1 : List ByteArray) : Option (List ByteArray) := q21_both.l0 k l0 l1 ([] : List ByteArray) 0 0
theorem q21_both.mono_l : ∀ k, (∀ y0 y1 y2 y3 y4, LeO (q21_both.l0 k y0 y1 y2 y3 y4) (q21_both.l0 (k + 1) y0 y1 y2 y3 y4)) ∧ (∀ y0 y1 y2 y3 y4 y5, LeO (q21_both.j1 k y0 y1 y2 y3 y4 y5) (q21_both.j1 (k + 1) y0 y1 y2 y3 y4 y5)) ∧ (∀ y0 y1 y2 y3 y4 y5, LeO (q21_both.j2 k y0 y1 y2 y3 y4 y5) (q21_both.j2 (k + 1) y0 y1 y2 y3 y4 y5))
  | 0 => ⟨fun _ _ _ _ _ r h => by simp [q21_both.l0] at h, fun _ _ _ _ _ _ r h => by simp [q21_both.j1] at h, fun _ _ _ _ _ _ r h => by simp [q21_both.j2] at h⟩
  | k + 1 => by
    obtain ⟨ih0, ih1, ih2⟩ := q21_both.mono_l k
    refine ⟨?_, ?_, ?_⟩
    · intro y0 y1 y2 y3 y4
      unfold q21_both.l0
      repeat' first
      | (with_reducible exact ih0 _ _ _ _ _)
      | (with_reducible exact ih1 _ _ _ _ _ _)
      | (with_reducible exact ih2 _ _ _ _ _ _)
      | (with_reducible exact LeO.refl _)
      | (with_reducible exact LeO.none _)
      | (with_reducible refine LeO.ite ?_ ?_)
      | (with_reducible refine LeO.bind ?_ (fun _ => ?_))
      | exact ih0 _ _ _ _ _
      | exact ih1 _ _ _ _ _ _
      | exact ih2 _ _ _ _ _ _
      | exact LeO.none _
      | refine LeO.ite ?_ ?_
      | refine LeO.bind ?_ (fun _ => ?_)
    · intro y0 y1 y2 y3 y4 y5
      unfold q21_both.j1
      repeat' first
      | (with_reducible exact ih0 _ _ _ _ _)
      | (with_reducible exact ih1 _ _ _ _ _ _)
      | (with_reducible exact ih2 _ _ _ _ _ _)
      | (with_reducible exact LeO.refl _)
      | (with_reducible exact LeO.none _)
      | (with_reducible refine LeO.ite ?_ ?_)
      | (with_reducible refine LeO.bind ?_ (fun _ => ?_))
      | exact ih0 _ _ _ _ _
      | exact ih1 _ _ _ _ _ _
      | exact ih2 _ _ _ _ _ _
      | exact LeO.none _
      | refine LeO.ite ?_ ?_
      | refine LeO.bind ?_ (fun _ => ?_)
    · intro y0 y1 y2 y3 y4 y5
      unfold q21_both.j2
      repeat' first
      | (with_reducible exact ih0 _ _ _ _ _)
      | (with_reducible exact ih1 _ _ _ _ _ _)
      | (with_reducible exact ih2 _ _ _ _ _ _)
      | (with_reducible exact LeO.refl _)
      | (with_reducible exact LeO.none _)
      | (with_reducible refine LeO.ite ?_ ?_)
      | (with_reducible refine LeO.bind ?_ (fun _ => ?_))
      | exact ih0 _ _ _ _ _
      | exact ih1 _ _ _ _ _ _
      | exact ih2 _ _ _ _ _ _
      | exact LeO.none _
      | refine LeO.ite ?_ ?_
      | refine LeO.bind ?_ (fun _ => ?_)
theorem q21_both.mono : ∀ a0 a1 k, LeO (q21_both.f k a0 a1) (q21_both.f (k + 1) a0 a1) := by
 intro a0 a1 k; obtain ⟨ih0, ih1, ih2⟩ := q21_both.mono_l k; unfold q21_both.f
 repeat' first
     | (with_reducible exact ih0 _ _ _ _ _)
     | (with_reducible exact ih1 _ _ _ _ _ _)
     | (with_reducible exact ih2 _ _ _ _ _ _)
     | (with_reducible exact LeO.refl _)
     | (with_reducible exact LeO.none _)
     | (with_reducible refine LeO.ite ?_ ?_)
     | (with_reducible refine LeO.bind ?_ (fun _ => ?_))
     | exact ih0 _ _ _ _ _
     | exact ih1 _ _ _ _ _ _
     | exact ih2 _ _ _ _ _ _
     | exact LeO.none _
     | refine LeO.ite ?_ ?_
     | refine LeO.bind ?_ (fun _ => ?_)
theorem q21_both.calls (k : Nat) (A0 : Option Addr) (c0 : Nat) (l0 : List ByteArray) (A1 : Option Addr) (c1 : Nat) (l1 : List ByteArray) (r : List ByteArray) (w : World) (hr0 : Kd.C Kd.string w A0 l0.length l0) (hc0 : l0.length ≤ c0) (hr1 : Kd.C Kd.string w A1 l1.length l1) (hc1 : l1.length ≤ c1) (h : q21_both.f k l0 l1 = some r) :
    Calls Tryd.prog 28 #[.slice A0 l0.length c0, .slice A1 l1.length c1] w fun e w' => ∃ v0_ : Value, e = .returned (v0_) ∧ Kd.R Kd.string 9 w' w.heap.size (fun _ => True) v0_ r ∧ Below w.heap.size w w' := by
 have HR0 := aM_ hr0; have HC0 := aM_ hc0; clear hr0 hc0; have HR1 := aM_ hr1; have HC1 := aM_ hc1; clear hr1 hc1; have HB := aM_ (Below.refl w.heap.size w); have H : (q21_both.l0 k l0 l1 ([] : List ByteArray) 0 0) = some r := h; clear h; have H' := aM_ H; clear H; (go_enter Tryd.func28, Tryd.ntmps28); go_wp2
 repeat (go_quiet (fail); try go_wp2)
 (go_loopg [5, 6, 7] k (fun kq v5 v6 v7 w' => ∃ (x5_1 : List ByteArray) (x6_1 : Int) (x7_1 : Int), v6 = .int .i64 x6_1 ∧ v7 = .int .i64 x7_1 ∧ Aside0 (q21_both.l0 kq l0 l1 x5_1 x6_1 x7_1 = some r) ∧ Aside0 (kq ≤ k) ∧ Aside0 (Kd.R Kd.string 9 w' w.heap.size (fun _ => True) v5 x5_1) ∧ Aside0 (Below w.heap.size w w')))
 case atStart => exact ⟨(([] : List ByteArray)), (0), (0), (by first | rfl | (simp; done) | (simp [*]; done)), (by first | rfl | (simp; done) | (simp [*]; done)), H', ⟨Nat.le_refl _⟩, ⟨by first | exact Kd.R_nil _ _ _ _ _ | exact Kd.N_nil _ _ _ _ _ | exact Kd.V_nil _ _ _ _ _ | exact Kd.Q_nil _ _ _ _ _ | exact Kd.S_nil _ _ _ _ _⟩, ⟨bZ0_ HB.out⟩⟩
 case round =>
  clear H'; (try clear c1); (try clear c2); (try clear p2); obtain ⟨x5_1, x6_1, x7_1, rfl, rfl, HA, HK1, HO_5, HB⟩ := hrel
  cases gk with
  | zero => exact absurd HA.out (by simp [q21_both.l0])
  | succ k1 =>
   have H := HA.out; clear HA; simp only [q21_both.l0] at H; have HC3 := aM_ H; clear H; (go_upto_region 3 with (fail))
   repeat (go_quiet (fail); go_upto_region 3 with (fail))
   (go_cut [17] (fun v17 wc => ∃ (kq : Nat) (x17_2 : Bool), v17 = .bool x17_2 ∧ Aside0 (q21_both.j1 kq l0 l1 x5_1 x6_1 x7_1 x17_2 = some r) ∧ Aside0 (kq ≤ k1) ∧ Aside0 (Kd.R Kd.string 9 wc w.heap.size (fun _ => True) u5 x5_1) ∧ Aside0 (Below w.heap.size w wc)))
   case first =>
    have H := HC3.out; clear HC3; (by_cases c4 : x6_1 < (l0.length : Int))
    · rw [if_pos c4] at H
      have c4b0 : decide (x6_1 < (l0.length : Int)) = true := dT_ c4; clear c4; (first | rw [c4b0] | (simp only [i64_w, i32_w]; rw [c4b0]) | skip); have H' := aM_ H; clear H; go_wp2
      repeat (go_quiet (fail); try go_wp2)
      (go_meet)
      case rel => exact ⟨_, (true), (by first | rfl | (simp; done) | (simp [*]; done)), H', ⟨by have := HK1.out; first | omega | exact Nat.le_refl _⟩, ⟨rZ_ HO_5.out⟩, ⟨bZ0_ HB.out⟩⟩
    · rw [if_neg c4] at H
      have c4b0 : decide (x6_1 < (l0.length : Int)) = false := decide_eq_false c4; clear c4; (first | rw [c4b0] | (simp only [i64_w, i32_w]; rw [c4b0]) | skip); have H' := aM_ H; clear H; go_wp2
      repeat (go_quiet (fail); try go_wp2)
      (go_meet)
      case rel => exact ⟨_, (decide (x7_1 < (l1.length : Int))), (by first | rfl | (simp; done) | (simp [*]; done)), H', ⟨by have := HK1.out; first | omega | exact Nat.le_refl _⟩, ⟨rZ_ HO_5.out⟩, ⟨bZ0_ HB.out⟩⟩
   case rest =>
    clear HC3; (try clear c1); (try clear c2); (try clear p2); (try clear c4); (try clear c4b0); (try clear p2); obtain ⟨kq, x17_2, rfl, HA, HJ2, HO_5, HB⟩ := hcut
    cases kq with
    | zero => exact absurd HA.out (by simp [q21_both.j1])
    | succ kj2 =>
     have H := HA.out; clear HA; simp only [q21_both.j1] at H; (by_cases c5 : x17_2 = true)
     · subst c5
       (have H1 : (if x7_1 = (l1.length : Int) then (q21_both.j2 kj2 l0 l1 x5_1 x6_1 x7_1 true) else (if x6_1 < (l0.length : Int) then (if 0 ≤ x6_1 then (if 0 ≤ x7_1 then (if x7_1 < (l1.length : Int) then (q21_both.j2 kj2 l0 l1 x5_1 x6_1 x7_1 (Op.bytesLess ((rdOf ByteArray.empty l0 x6_1).toList) ((rdOf ByteArray.empty l1 x7_1).toList))) else (none)) else (none)) else (none)) else (q21_both.j2 kj2 l0 l1 x5_1 x6_1 x7_1 false))) = some r := by rw [if_pos rfl] at H; exact H); clear H; have H := H1; clear H1; have HC6 := aM_ H; clear H; (go_upto_region 7 with (fail))
       repeat (go_quiet (fail); go_upto_region 7 with (fail))
       (go_cut [29] (fun v29 wc => ∃ (kq : Nat) (x29_5 : Bool), v29 = .bool x29_5 ∧ Aside0 (q21_both.j2 kq l0 l1 x5_1 x6_1 x7_1 x29_5 = some r) ∧ Aside0 (kq ≤ kj2) ∧ Aside0 (Kd.R Kd.string 9 wc w.heap.size (fun _ => True) u5 x5_1) ∧ Aside0 (Below w.heap.size w wc)))
       case first =>
        have H := HC6.out; clear HC6; (by_cases c7 : x7_1 = (l1.length : Int))
        · rw [if_pos c7] at H
          have c7b0 : (x7_1 == (l1.length : Int)) = true := beq_iff_eq.mpr c7; have c7b1 : (x7_1 != (l1.length : Int)) = false := bne_eq_false_iff_eq.mpr c7; clear c7; (first | rw [c7b0] | (simp only [i64_w, i32_w]; rw [c7b0]) | skip); have H' := aM_ H; clear H; go_wp2
          repeat (go_quiet (fail); try go_wp2)
          (go_meet)
          case rel => exact ⟨_, (true), (by first | rfl | (simp; done) | (simp [*]; done)), H', ⟨by have := HK1.out; have := HJ2.out; first | omega | exact Nat.le_refl _⟩, ⟨rZ_ HO_5.out⟩, ⟨bZ0_ HB.out⟩⟩
        · rw [if_neg c7] at H
          have c7b0 : (x7_1 == (l1.length : Int)) = false := beq_eq_false_iff_ne.mpr c7; have c7b1 : (x7_1 != (l1.length : Int)) = true := bne_iff_ne.mpr c7; (first | rw [c7b0] | (simp only [i64_w, i32_w]; rw [c7b0]) | skip); (by_cases c8 : x6_1 < (l0.length : Int))
          · rw [if_pos c8] at H
            have c8b0 : decide (x6_1 < (l0.length : Int)) = true := dT_ c8; clear c8; (by_cases c9 : 0 ≤ x6_1)
            · rw [if_pos c9] at H
              have c9b0 : decide (0 ≤ x6_1) = true := dT_ c9; clear c9; (by_cases c10 : 0 ≤ x7_1)
              · rw [if_pos c10] at H
                have c10b0 : decide (0 ≤ x7_1) = true := dT_ c10; clear c10; (by_cases c11 : x7_1 < (l1.length : Int))
                · rw [if_pos c11] at H
                  have c11b0 : decide (x7_1 < (l1.length : Int)) = true := dT_ c11; clear c11; have H' := aM_ H; clear H; have p270 : 0 ≤ (x6_1 : Int) := oD_ (by assumption); have q270 : x6_1 < (l0.length : Int) := oD_ (by assumption); obtain ⟨ad270, e270, hx270_0⟩ := Kd.at_string HR0.out x6_1 p270 q270; (cases e270); replace hx270_0 := (HB.out.cell (lC_ w _ hx270_0)).trans hx270_0; replace p270 := eq_true p270; replace q270 := eq_true q270; have p271 : 0 ≤ (x7_1 : Int) := oD_ (by assumption); have q271 : x7_1 < (l1.length : Int) := oD_ (by assumption); obtain ⟨ad271, e271, hx271_0⟩ := Kd.at_string HR1.out x7_1 p271 q271; (cases e271); replace hx271_0 := (HB.out.cell (lC_ w _ hx271_0)).trans hx271_0; replace p271 := eq_true p271; replace q271 := eq_true q271; go_wp2
                  repeat (go_quiet (fail); try go_wp2)
                  (go_meet)
                  case rel => exact ⟨_, ((Op.bytesLess ((rdOf ByteArray.empty l0 x6_1).toList) ((rdOf ByteArray.empty l1 x7_1).toList))), (by first | rfl | (simp; done) | (simp [*]; done)), H', ⟨by have := HK1.out; have := HJ2.out; first | omega | exact Nat.le_refl _⟩, ⟨rZ_ HO_5.out⟩, ⟨bZ0_ HB.out⟩⟩
                (· rw [if_neg c11] at H; exact absurd H (by simp))
              (· rw [if_neg c10] at H; exact absurd H (by simp))
            (· rw [if_neg c9] at H; exact absurd H (by simp))
          · rw [if_neg c8] at H
            have c8b0 : decide (x6_1 < (l0.length : Int)) = false := decide_eq_false c8; clear c8; have H' := aM_ H; clear H; go_wp2
            repeat (go_quiet (fail); try go_wp2)
            (go_meet)
            case rel => exact ⟨_, (false), (by first | rfl | (simp; done) | (simp [*]; done)), H', ⟨by have := HK1.out; have := HJ2.out; first | omega | exact Nat.le_refl _⟩, ⟨rZ_ HO_5.out⟩, ⟨bZ0_ HB.out⟩⟩
       case rest =>
        clear HC6; (try clear c1); (try clear c2); (try clear p2); (try clear q2); (try clear hx2); (try clear c4); (try clear c4b0); (try clear c5); (try clear c7); (try clear c7b0); (try clear c7b1); (try clear c8); (try clear c8b0); (try clear c9); (try clear c9b0); (try clear c10); (try clear c10b0); (try clear c11); (try clear c11b0); (try clear hx270_0); (try clear hx271_0); (try clear p2); (try clear p270); (try clear p271); (try clear q270); (try clear q271); obtain ⟨kq, x29_5, rfl, HA, HJ5, HO_5, HB⟩ := hcut
        cases kq with
        | zero => exact absurd HA.out (by simp [q21_both.j2])
        | succ kj5 =>
         have H := HA.out; clear HA; simp only [q21_both.j2] at H; (by_cases c12 : x29_5 = true)
         · subst c12
           (have H1 : (if 0 ≤ x6_1 then (if x6_1 < (l0.length : Int) then (if x5_1.length < 8796093022208 then (q21_both.l0 kj5 l0 l1 (x5_1 ++ [rdOf ByteArray.empty l0 x6_1]) (wrap64 (x6_1 + 1)) x7_1) else (none)) else (none)) else (none)) = some r := by rw [if_pos rfl] at H; exact H); clear H; have H := H1; clear H1; (by_cases c13 : 0 ≤ x6_1)
           · rw [if_pos c13] at H
             have c13b0 : decide (0 ≤ x6_1) = true := dT_ c13; clear c13; (by_cases c14 : x6_1 < (l0.length : Int))
             · rw [if_pos c14] at H
               have c14b0 : decide (x6_1 < (l0.length : Int)) = true := dT_ c14; clear c14; (by_cases c15 : x5_1.length < 8796093022208)
               · rw [if_pos c15] at H
                 have LMc15 := aM_ c15; clear c15; obtain ⟨y273, hy273⟩ : ∃ y_ : List ByteArray, y_ = (x5_1 ++ [rdOf ByteArray.empty l0 x6_1]) := ⟨_, rfl⟩; (replace H : (q21_both.l0 kj5 l0 l1 y273 (wrap64 (x6_1 + 1)) x7_1) = some r := yZ_ H hy273); have Ny273 := aM_ hy273; clear hy273; have H' := aM_ H; clear H; have p272 : 0 ≤ (x6_1 : Int) := oD_ (by assumption); have q272 : x6_1 < (l0.length : Int) := oD_ (by assumption); obtain ⟨ad272, e272, hx272_0⟩ := Kd.at_string HR0.out x6_1 p272 q272; (cases e272); replace hx272_0 := (HB.out.cell (lC_ w _ hx272_0)).trans hx272_0; replace p272 := eq_true p272; replace q272 := eq_true q272
                 go_wp2_with (first | ((with_reducible refine gate_builtin (b := .append) (xs := #[.tmp 51, .tmp 56]) rfl ?_); (try (refine gate_guard (by rfl) ?_; dsimp only)); at_builtin; refine Kd.R_append Kd.string (w0 := w) w.heap.size rfl (.tmp 51) (.tmp 56) 22 9 (.string ⟨#[]⟩) 16 rfl Tryd.underlying22 info9 rfl (by decide) (by omega) u5 x5_1 (rdOf ByteArray.empty l0 x6_1) [.string (rdOf ByteArray.empty l0 x6_1)] (fun _ => True) (fun _ => False) rfl rfl ?aP (fun _ hk => hk.elim) ?aF ?aO ?aB ?aS ?aL ?_; (case aP => exact rfl); (case aB => exact (bZ0_ HB.out)); (case aF => exact (fun _ _ => trivial)); (case aO => exact (rZ_ HO_5.out)); (case aS => exact (bZ_ (bZ0_ HB.out))); (case aL => have := LMc15.out; omega); intro v274 w16 ho hb hg hat; rw [← Ny273.out] at ho; have n0_ := aM_ (hb); have n1_ := aM_ (ho); clear HB; clear HO_5; have HB := n0_; have HO275 := n1_; clear n0_ n1_; clear ho hb hg hat))
                 repeat (go_quiet (first | ((with_reducible refine gate_builtin (b := .append) (xs := #[.tmp 51, .tmp 56]) rfl ?_); (try (refine gate_guard (by rfl) ?_; dsimp only)); at_builtin; refine Kd.R_append Kd.string (w0 := w) w.heap.size rfl (.tmp 51) (.tmp 56) 22 9 (.string ⟨#[]⟩) 16 rfl Tryd.underlying22 info9 rfl (by decide) (by omega) u5 x5_1 (rdOf ByteArray.empty l0 x6_1) [.string (rdOf ByteArray.empty l0 x6_1)] (fun _ => True) (fun _ => False) rfl rfl ?aP (fun _ hk => hk.elim) ?aF ?aO ?aB ?aS ?aL ?_; (case aP => exact rfl); (case aB => exact (bZ0_ HB.out)); (case aF => exact (fun _ _ => trivial)); (case aO => exact (rZ_ HO_5.out)); (case aS => exact (bZ_ (bZ0_ HB.out))); (case aL => have := LMc15.out; omega); intro v274 w16 ho hb hg hat; rw [← Ny273.out] at ho; have n0_ := aM_ (hb); have n1_ := aM_ (ho); clear HB; clear HO_5; have HB := n0_; have HO275 := n1_; clear n0_ n1_; clear ho hb hg hat)); try go_wp2_with (first | ((with_reducible refine gate_builtin (b := .append) (xs := #[.tmp 51, .tmp 56]) rfl ?_); (try (refine gate_guard (by rfl) ?_; dsimp only)); at_builtin; refine Kd.R_append Kd.string (w0 := w) w.heap.size rfl (.tmp 51) (.tmp 56) 22 9 (.string ⟨#[]⟩) 16 rfl Tryd.underlying22 info9 rfl (by decide) (by omega) u5 x5_1 (rdOf ByteArray.empty l0 x6_1) [.string (rdOf ByteArray.empty l0 x6_1)] (fun _ => True) (fun _ => False) rfl rfl ?aP (fun _ hk => hk.elim) ?aF ?aO ?aB ?aS ?aL ?_; (case aP => exact rfl); (case aB => exact (bZ0_ HB.out)); (case aF => exact (fun _ _ => trivial)); (case aO => exact (rZ_ HO_5.out)); (case aS => exact (bZ_ (bZ0_ HB.out))); (case aL => have := LMc15.out; omega); intro v274 w16 ho hb hg hat; rw [← Ny273.out] at ho; have n0_ := aM_ (hb); have n1_ := aM_ (ho); clear HB; clear HO_5; have HB := n0_; have HO275 := n1_; clear n0_ n1_; clear ho hb hg hat)))
                 (go_roundg kj5)
                 case measure => have := HK1.out; have := HJ2.out; have := HJ5.out; omega
                 case rel => exact ⟨(y273), (wrap64 (x6_1 + 1)), (x7_1), (by first | rfl | (simp; done) | (simp [*]; done)), (by first | rfl | (simp; done) | (simp [*]; done)), H', ⟨by have := HK1.out; have := HJ2.out; have := HJ5.out; omega⟩, ⟨rZ_ HO275.out⟩, ⟨bZ0_ HB.out⟩⟩
               (· rw [if_neg c15] at H; exact absurd H (by simp))
             (· rw [if_neg c14] at H; exact absurd H (by simp))
           (· rw [if_neg c13] at H; exact absurd H (by simp))
         · replace c12 := Bool.eq_false_iff.mpr c12
           subst c12; (have H1 : (if x6_1 = (l0.length : Int) then (if 0 ≤ x7_1 then (if x7_1 < (l1.length : Int) then (if x5_1.length < 8796093022208 then (q21_both.l0 kj5 l0 l1 (x5_1 ++ [rdOf ByteArray.empty l1 x7_1]) x6_1 (wrap64 (x7_1 + 1))) else (none)) else (none)) else (none)) else (if 0 ≤ x7_1 then (if x7_1 < (l1.length : Int) then (if 0 ≤ x6_1 then (if x6_1 < (l0.length : Int) then (if (Op.bytesLess ((rdOf ByteArray.empty l1 x7_1).toList) ((rdOf ByteArray.empty l0 x6_1).toList)) = true then (if x5_1.length < 8796093022208 then (q21_both.l0 kj5 l0 l1 (x5_1 ++ [rdOf ByteArray.empty l1 x7_1]) x6_1 (wrap64 (x7_1 + 1))) else (none)) else (if x5_1.length < 8796093022208 then (q21_both.l0 kj5 l0 l1 (x5_1 ++ [rdOf ByteArray.empty l0 x6_1]) (wrap64 (x6_1 + 1)) (wrap64 (x7_1 + 1))) else (none))) else (none)) else (none)) else (none)) else (none))) = some r := by rw [if_neg (show ¬ (false = true) by decide)] at H; exact H); clear H; have H := H1; clear H1; (by_cases c17 : x6_1 = (l0.length : Int))
           · rw [if_pos c17] at H
             have c17b0 : (x6_1 == (l0.length : Int)) = true := beq_iff_eq.mpr c17; have c17b1 : (x6_1 != (l0.length : Int)) = false := bne_eq_false_iff_eq.mpr c17; clear c17; (by_cases c18 : 0 ≤ x7_1)
             · rw [if_pos c18] at H
               have c18b0 : decide (0 ≤ x7_1) = true := dT_ c18; clear c18; (by_cases c19 : x7_1 < (l1.length : Int))
               · rw [if_pos c19] at H
                 have c19b0 : decide (x7_1 < (l1.length : Int)) = true := dT_ c19; clear c19; (by_cases c20 : x5_1.length < 8796093022208)
                 · rw [if_pos c20] at H
                   have LMc20 := aM_ c20; clear c20; obtain ⟨y277, hy277⟩ : ∃ y_ : List ByteArray, y_ = (x5_1 ++ [rdOf ByteArray.empty l1 x7_1]) := ⟨_, rfl⟩; (replace H : (q21_both.l0 kj5 l0 l1 y277 x6_1 (wrap64 (x7_1 + 1))) = some r := yZ_ H hy277); have Ny277 := aM_ hy277; clear hy277; have H' := aM_ H; clear H; have p276 : 0 ≤ (x7_1 : Int) := oD_ (by assumption); have q276 : x7_1 < (l1.length : Int) := oD_ (by assumption); obtain ⟨ad276, e276, hx276_0⟩ := Kd.at_string HR1.out x7_1 p276 q276; (cases e276); replace hx276_0 := (HB.out.cell (lC_ w _ hx276_0)).trans hx276_0; replace p276 := eq_true p276; replace q276 := eq_true q276
                   go_wp2_with (first | ((with_reducible refine gate_builtin (b := .append) (xs := #[.tmp 76, .tmp 81]) rfl ?_); (try (refine gate_guard (by rfl) ?_; dsimp only)); at_builtin; refine Kd.R_append Kd.string (w0 := w) w.heap.size rfl (.tmp 76) (.tmp 81) 22 9 (.string ⟨#[]⟩) 16 rfl Tryd.underlying22 info9 rfl (by decide) (by omega) u5 x5_1 (rdOf ByteArray.empty l1 x7_1) [.string (rdOf ByteArray.empty l1 x7_1)] (fun _ => True) (fun _ => False) rfl rfl ?aP (fun _ hk => hk.elim) ?aF ?aO ?aB ?aS ?aL ?_; (case aP => exact rfl); (case aB => exact (bZ0_ HB.out)); (case aF => exact (fun _ _ => trivial)); (case aO => exact (rZ_ HO_5.out)); (case aS => exact (bZ_ (bZ0_ HB.out))); (case aL => have := LMc20.out; omega); intro v278 w21 ho hb hg hat; rw [← Ny277.out] at ho; have n0_ := aM_ (hb); have n1_ := aM_ (ho); clear HB; clear HO_5; have HB := n0_; have HO279 := n1_; clear n0_ n1_; clear ho hb hg hat))
                   repeat (go_quiet (first | ((with_reducible refine gate_builtin (b := .append) (xs := #[.tmp 76, .tmp 81]) rfl ?_); (try (refine gate_guard (by rfl) ?_; dsimp only)); at_builtin; refine Kd.R_append Kd.string (w0 := w) w.heap.size rfl (.tmp 76) (.tmp 81) 22 9 (.string ⟨#[]⟩) 16 rfl Tryd.underlying22 info9 rfl (by decide) (by omega) u5 x5_1 (rdOf ByteArray.empty l1 x7_1) [.string (rdOf ByteArray.empty l1 x7_1)] (fun _ => True) (fun _ => False) rfl rfl ?aP (fun _ hk => hk.elim) ?aF ?aO ?aB ?aS ?aL ?_; (case aP => exact rfl); (case aB => exact (bZ0_ HB.out)); (case aF => exact (fun _ _ => trivial)); (case aO => exact (rZ_ HO_5.out)); (case aS => exact (bZ_ (bZ0_ HB.out))); (case aL => have := LMc20.out; omega); intro v278 w21 ho hb hg hat; rw [← Ny277.out] at ho; have n0_ := aM_ (hb); have n1_ := aM_ (ho); clear HB; clear HO_5; have HB := n0_; have HO279 := n1_; clear n0_ n1_; clear ho hb hg hat)); try go_wp2_with (first | ((with_reducible refine gate_builtin (b := .append) (xs := #[.tmp 76, .tmp 81]) rfl ?_); (try (refine gate_guard (by rfl) ?_; dsimp only)); at_builtin; refine Kd.R_append Kd.string (w0 := w) w.heap.size rfl (.tmp 76) (.tmp 81) 22 9 (.string ⟨#[]⟩) 16 rfl Tryd.underlying22 info9 rfl (by decide) (by omega) u5 x5_1 (rdOf ByteArray.empty l1 x7_1) [.string (rdOf ByteArray.empty l1 x7_1)] (fun _ => True) (fun _ => False) rfl rfl ?aP (fun _ hk => hk.elim) ?aF ?aO ?aB ?aS ?aL ?_; (case aP => exact rfl); (case aB => exact (bZ0_ HB.out)); (case aF => exact (fun _ _ => trivial)); (case aO => exact (rZ_ HO_5.out)); (case aS => exact (bZ_ (bZ0_ HB.out))); (case aL => have := LMc20.out; omega); intro v278 w21 ho hb hg hat; rw [← Ny277.out] at ho; have n0_ := aM_ (hb); have n1_ := aM_ (ho); clear HB; clear HO_5; have HB := n0_; have HO279 := n1_; clear n0_ n1_; clear ho hb hg hat)))
                   (go_roundg kj5)
                   case measure => have := HK1.out; have := HJ2.out; have := HJ5.out; omega
                   case rel => exact ⟨(y277), (x6_1), (wrap64 (x7_1 + 1)), (by first | rfl | (simp; done) | (simp [*]; done)), (by first | rfl | (simp; done) | (simp [*]; done)), H', ⟨by have := HK1.out; have := HJ2.out; have := HJ5.out; omega⟩, ⟨rZ_ HO279.out⟩, ⟨bZ0_ HB.out⟩⟩
                 (· rw [if_neg c20] at H; exact absurd H (by simp))
               (· rw [if_neg c19] at H; exact absurd H (by simp))
             (· rw [if_neg c18] at H; exact absurd H (by simp))
           · rw [if_neg c17] at H
             have c17b0 : (x6_1 == (l0.length : Int)) = false := beq_eq_false_iff_ne.mpr c17; have c17b1 : (x6_1 != (l0.length : Int)) = true := bne_iff_ne.mpr c17; (by_cases c22 : 0 ≤ x7_1)
             · rw [if_pos c22] at H
               have c22b0 : decide (0 ≤ x7_1) = true := dT_ c22; clear c22; (by_cases c23 : x7_1 < (l1.length : Int))
               · rw [if_pos c23] at H
                 have c23b0 : decide (x7_1 < (l1.length : Int)) = true := dT_ c23; clear c23; (by_cases c24 : 0 ≤ x6_1)
                 · rw [if_pos c24] at H
                   have c24b0 : decide (0 ≤ x6_1) = true := dT_ c24; clear c24; (by_cases c25 : x6_1 < (l0.length : Int))
                   · rw [if_pos c25] at H
                     have c25b0 : decide (x6_1 < (l0.length : Int)) = true := dT_ c25; clear c25; (by_cases c26 : (Op.bytesLess ((rdOf ByteArray.empty l1 x7_1).toList) ((rdOf ByteArray.empty l0 x6_1).toList)) = true)
                     · rw [if_pos c26] at H
                       have c26b0 : (Op.bytesLess ((rdOf ByteArray.empty l1 x7_1).toList) ((rdOf ByteArray.empty l0 x6_1).toList)) = true := c26; clear c26; (by_cases c27 : x5_1.length < 8796093022208)
                       · rw [if_pos c27] at H
                         have LMc27 := aM_ c27; clear c27; obtain ⟨y283, hy283⟩ : ∃ y_ : List ByteArray, y_ = (x5_1 ++ [rdOf ByteArray.empty l1 x7_1]) := ⟨_, rfl⟩; (replace H : (q21_both.l0 kj5 l0 l1 y283 x6_1 (wrap64 (x7_1 + 1))) = some r := yZ_ H hy283); have Ny283 := aM_ hy283; clear hy283; have H' := aM_ H; clear H; have p280 : 0 ≤ (x7_1 : Int) := oD_ (by assumption); have q280 : x7_1 < (l1.length : Int) := oD_ (by assumption); obtain ⟨ad280, e280, hx280_0⟩ := Kd.at_string HR1.out x7_1 p280 q280; (cases e280); replace hx280_0 := (HB.out.cell (lC_ w _ hx280_0)).trans hx280_0; replace p280 := eq_true p280; replace q280 := eq_true q280; have p281 : 0 ≤ (x6_1 : Int) := oD_ (by assumption); have q281 : x6_1 < (l0.length : Int) := oD_ (by assumption); obtain ⟨ad281, e281, hx281_0⟩ := Kd.at_string HR0.out x6_1 p281 q281; (cases e281); replace hx281_0 := (HB.out.cell (lC_ w _ hx281_0)).trans hx281_0; replace p281 := eq_true p281; replace q281 := eq_true q281; have p282 : 0 ≤ (x7_1 : Int) := oD_ (by assumption); have q282 : x7_1 < (l1.length : Int) := oD_ (by assumption); obtain ⟨ad282, e282, hx282_0⟩ := Kd.at_string HR1.out x7_1 p282 q282; obtain rfl : ad280 = ad282 := (by injection e282); replace hx282_0 := (HB.out.cell (lC_ w _ hx282_0)).trans hx282_0; replace p282 := eq_true p282; replace q282 := eq_true q282
                         go_wp2_with (first | ((with_reducible refine gate_builtin (b := .append) (xs := #[.tmp 76, .tmp 81]) rfl ?_); (try (refine gate_guard (by rfl) ?_; dsimp only)); at_builtin; refine Kd.R_append Kd.string (w0 := w) w.heap.size rfl (.tmp 76) (.tmp 81) 22 9 (.string ⟨#[]⟩) 16 rfl Tryd.underlying22 info9 rfl (by decide) (by omega) u5 x5_1 (rdOf ByteArray.empty l1 x7_1) [.string (rdOf ByteArray.empty l1 x7_1)] (fun _ => True) (fun _ => False) rfl rfl ?aP (fun _ hk => hk.elim) ?aF ?aO ?aB ?aS ?aL ?_; (case aP => exact rfl); (case aB => exact (bZ0_ HB.out)); (case aF => exact (fun _ _ => trivial)); (case aO => exact (rZ_ HO_5.out)); (case aS => exact (bZ_ (bZ0_ HB.out))); (case aL => have := LMc27.out; omega); intro v284 w28 ho hb hg hat; rw [← Ny283.out] at ho; have n0_ := aM_ (hb); have n1_ := aM_ (ho); clear HB; clear HO_5; have HB := n0_; have HO285 := n1_; clear n0_ n1_; clear ho hb hg hat))
                         repeat (go_quiet (first | ((with_reducible refine gate_builtin (b := .append) (xs := #[.tmp 76, .tmp 81]) rfl ?_); (try (refine gate_guard (by rfl) ?_; dsimp only)); at_builtin; refine Kd.R_append Kd.string (w0 := w) w.heap.size rfl (.tmp 76) (.tmp 81) 22 9 (.string ⟨#[]⟩) 16 rfl Tryd.underlying22 info9 rfl (by decide) (by omega) u5 x5_1 (rdOf ByteArray.empty l1 x7_1) [.string (rdOf ByteArray.empty l1 x7_1)] (fun _ => True) (fun _ => False) rfl rfl ?aP (fun _ hk => hk.elim) ?aF ?aO ?aB ?aS ?aL ?_; (case aP => exact rfl); (case aB => exact (bZ0_ HB.out)); (case aF => exact (fun _ _ => trivial)); (case aO => exact (rZ_ HO_5.out)); (case aS => exact (bZ_ (bZ0_ HB.out))); (case aL => have := LMc27.out; omega); intro v284 w28 ho hb hg hat; rw [← Ny283.out] at ho; have n0_ := aM_ (hb); have n1_ := aM_ (ho); clear HB; clear HO_5; have HB := n0_; have HO285 := n1_; clear n0_ n1_; clear ho hb hg hat)); try go_wp2_with (first | ((with_reducible refine gate_builtin (b := .append) (xs := #[.tmp 76, .tmp 81]) rfl ?_); (try (refine gate_guard (by rfl) ?_; dsimp only)); at_builtin; refine Kd.R_append Kd.string (w0 := w) w.heap.size rfl (.tmp 76) (.tmp 81) 22 9 (.string ⟨#[]⟩) 16 rfl Tryd.underlying22 info9 rfl (by decide) (by omega) u5 x5_1 (rdOf ByteArray.empty l1 x7_1) [.string (rdOf ByteArray.empty l1 x7_1)] (fun _ => True) (fun _ => False) rfl rfl ?aP (fun _ hk => hk.elim) ?aF ?aO ?aB ?aS ?aL ?_; (case aP => exact rfl); (case aB => exact (bZ0_ HB.out)); (case aF => exact (fun _ _ => trivial)); (case aO => exact (rZ_ HO_5.out)); (case aS => exact (bZ_ (bZ0_ HB.out))); (case aL => have := LMc27.out; omega); intro v284 w28 ho hb hg hat; rw [← Ny283.out] at ho; have n0_ := aM_ (hb); have n1_ := aM_ (ho); clear HB; clear HO_5; have HB := n0_; have HO285 := n1_; clear n0_ n1_; clear ho hb hg hat)))
                         (go_roundg kj5)
                         case measure => have := HK1.out; have := HJ2.out; have := HJ5.out; omega
                         case rel => exact ⟨(y283), (x6_1), (wrap64 (x7_1 + 1)), (by first | rfl | (simp; done) | (simp [*]; done)), (by first | rfl | (simp; done) | (simp [*]; done)), H', ⟨by have := HK1.out; have := HJ2.out; have := HJ5.out; omega⟩, ⟨rZ_ HO285.out⟩, ⟨bZ0_ HB.out⟩⟩
                       (· rw [if_neg c27] at H; exact absurd H (by simp))
                     · rw [if_neg c26] at H
                       (have c26b0 : (Op.bytesLess ((rdOf ByteArray.empty l1 x7_1).toList) ((rdOf ByteArray.empty l0 x6_1).toList)) = false := by simpa using c26); clear c26; (by_cases c29 : x5_1.length < 8796093022208)
                       · rw [if_pos c29] at H
                         have LMc29 := aM_ c29; clear c29; obtain ⟨y287, hy287⟩ : ∃ y_ : List ByteArray, y_ = (x5_1 ++ [rdOf ByteArray.empty l0 x6_1]) := ⟨_, rfl⟩; (replace H : (q21_both.l0 kj5 l0 l1 y287 (wrap64 (x6_1 + 1)) (wrap64 (x7_1 + 1))) = some r := yZ_ H hy287); have Ny287 := aM_ hy287; clear hy287; have H' := aM_ H; clear H; have p280 : 0 ≤ (x7_1 : Int) := oD_ (by assumption); have q280 : x7_1 < (l1.length : Int) := oD_ (by assumption); obtain ⟨ad280, e280, hx280_0⟩ := Kd.at_string HR1.out x7_1 p280 q280; (cases e280); replace hx280_0 := (HB.out.cell (lC_ w _ hx280_0)).trans hx280_0; replace p280 := eq_true p280; replace q280 := eq_true q280; have p281 : 0 ≤ (x6_1 : Int) := oD_ (by assumption); have q281 : x6_1 < (l0.length : Int) := oD_ (by assumption); obtain ⟨ad281, e281, hx281_0⟩ := Kd.at_string HR0.out x6_1 p281 q281; (cases e281); replace hx281_0 := (HB.out.cell (lC_ w _ hx281_0)).trans hx281_0; replace p281 := eq_true p281; replace q281 := eq_true q281; have p286 : 0 ≤ (x6_1 : Int) := oD_ (by assumption); have q286 : x6_1 < (l0.length : Int) := oD_ (by assumption); obtain ⟨ad286, e286, hx286_0⟩ := Kd.at_string HR0.out x6_1 p286 q286; obtain rfl : ad281 = ad286 := (by injection e286); replace hx286_0 := (HB.out.cell (lC_ w _ hx286_0)).trans hx286_0; replace p286 := eq_true p286; replace q286 := eq_true q286
                         go_wp2_with (first | ((with_reducible refine gate_builtin (b := .append) (xs := #[.tmp 18, .tmp 23]) rfl ?_); (try (refine gate_guard (by rfl) ?_; dsimp only)); at_builtin; refine Kd.R_append Kd.string (w0 := w) w.heap.size rfl (.tmp 18) (.tmp 23) 22 9 (.string ⟨#[]⟩) 16 rfl Tryd.underlying22 info9 rfl (by decide) (by omega) u5 x5_1 (rdOf ByteArray.empty l0 x6_1) [.string (rdOf ByteArray.empty l0 x6_1)] (fun _ => True) (fun _ => False) rfl rfl ?aP (fun _ hk => hk.elim) ?aF ?aO ?aB ?aS ?aL ?_; (case aP => exact rfl); (case aB => exact (bZ0_ HB.out)); (case aF => exact (fun _ _ => trivial)); (case aO => exact (rZ_ HO_5.out)); (case aS => exact (bZ_ (bZ0_ HB.out))); (case aL => have := LMc29.out; omega); intro v288 w30 ho hb hg hat; rw [← Ny287.out] at ho; have n0_ := aM_ (hb); have n1_ := aM_ (ho); clear HB; clear HO_5; have HB := n0_; have HO289 := n1_; clear n0_ n1_; clear ho hb hg hat))
                         repeat (go_quiet (first | ((with_reducible refine gate_builtin (b := .append) (xs := #[.tmp 18, .tmp 23]) rfl ?_); (try (refine gate_guard (by rfl) ?_; dsimp only)); at_builtin; refine Kd.R_append Kd.string (w0 := w) w.heap.size rfl (.tmp 18) (.tmp 23) 22 9 (.string ⟨#[]⟩) 16 rfl Tryd.underlying22 info9 rfl (by decide) (by omega) u5 x5_1 (rdOf ByteArray.empty l0 x6_1) [.string (rdOf ByteArray.empty l0 x6_1)] (fun _ => True) (fun _ => False) rfl rfl ?aP (fun _ hk => hk.elim) ?aF ?aO ?aB ?aS ?aL ?_; (case aP => exact rfl); (case aB => exact (bZ0_ HB.out)); (case aF => exact (fun _ _ => trivial)); (case aO => exact (rZ_ HO_5.out)); (case aS => exact (bZ_ (bZ0_ HB.out))); (case aL => have := LMc29.out; omega); intro v288 w30 ho hb hg hat; rw [← Ny287.out] at ho; have n0_ := aM_ (hb); have n1_ := aM_ (ho); clear HB; clear HO_5; have HB := n0_; have HO289 := n1_; clear n0_ n1_; clear ho hb hg hat)); try go_wp2_with (first | ((with_reducible refine gate_builtin (b := .append) (xs := #[.tmp 18, .tmp 23]) rfl ?_); (try (refine gate_guard (by rfl) ?_; dsimp only)); at_builtin; refine Kd.R_append Kd.string (w0 := w) w.heap.size rfl (.tmp 18) (.tmp 23) 22 9 (.string ⟨#[]⟩) 16 rfl Tryd.underlying22 info9 rfl (by decide) (by omega) u5 x5_1 (rdOf ByteArray.empty l0 x6_1) [.string (rdOf ByteArray.empty l0 x6_1)] (fun _ => True) (fun _ => False) rfl rfl ?aP (fun _ hk => hk.elim) ?aF ?aO ?aB ?aS ?aL ?_; (case aP => exact rfl); (case aB => exact (bZ0_ HB.out)); (case aF => exact (fun _ _ => trivial)); (case aO => exact (rZ_ HO_5.out)); (case aS => exact (bZ_ (bZ0_ HB.out))); (case aL => have := LMc29.out; omega); intro v288 w30 ho hb hg hat; rw [← Ny287.out] at ho; have n0_ := aM_ (hb); have n1_ := aM_ (ho); clear HB; clear HO_5; have HB := n0_; have HO289 := n1_; clear n0_ n1_; clear ho hb hg hat)))
                         (go_roundg kj5)
                         case measure => have := HK1.out; have := HJ2.out; have := HJ5.out; omega
                         case rel => exact ⟨(y287), (wrap64 (x6_1 + 1)), (wrap64 (x7_1 + 1)), (by first | rfl | (simp; done) | (simp [*]; done)), (by first | rfl | (simp; done) | (simp [*]; done)), H', ⟨by have := HK1.out; have := HJ2.out; have := HJ5.out; omega⟩, ⟨rZ_ HO289.out⟩, ⟨bZ0_ HB.out⟩⟩
                       (· rw [if_neg c29] at H; exact absurd H (by simp))
                   (· rw [if_neg c25] at H; exact absurd H (by simp))
                 (· rw [if_neg c24] at H; exact absurd H (by simp))
               (· rw [if_neg c23] at H; exact absurd H (by simp))
             (· rw [if_neg c22] at H; exact absurd H (by simp))
     · replace c5 := Bool.eq_false_iff.mpr c5
       subst c5; (have H1 : (some x5_1) = some r := by rw [if_neg (show ¬ (false = true) by decide)] at H; exact H); clear H; have H := H1; clear H1; obtain rfl := oJ_ H; simp only [oI_, pI_] at H; obtain ⟨rfl⟩ := H; go_wp2
       repeat (go_quiet (fail); try go_wp2)
       go_ret; (exact ⟨_, by first | rfl | (simp [errW_none, errW_some] <;> rfl) | (simp [*, errW_none, errW_some] <;> rfl), by exact rZ_ HO_5.out, by exact bZ0_ HB.out⟩)
mutual
def q21_number.l0 : Nat → List ByteArray → List Int → ByteArray → Int → Option (Int)
  | 0, _, _, _, _ => none
  | k + 1, x0, x1, x2, x7 => if x7 < (x0.length : Int) then (q21_number.j1 k x0 x1 x2 x7 (decide (x7 < (x1.length : Int)))) else (q21_number.j1 k x0 x1 x2 x7 false)
def q21_number.j1 : Nat → List ByteArray → List Int → ByteArray → Int → Bool → Option (Int)
  | 0, _, _, _, _, _ => none
  | k + 1, x0, x1, x2, x7, x17 => if x17 = true then (if 0 ≤ x7 then (if x7 < (x0.length : Int) then (if (rdOf ByteArray.empty x0 x7).toList = x2.toList then (if x7 < (x1.length : Int) then (some (rd x1 x7)) else (none)) else (q21_number.l0 k x0 x1 x2 (wrap64 (x7 + 1)))) else (none)) else (none)) else (some (-1))
end
def q21_number.f (k : Nat) (l0 : List ByteArray) (l1 : List Int) (a2 : ByteArray) : Option (Int) := q21_number.l0 k l0 l1 a2 0
theorem q21_number.mono_l : ∀ k, (∀ y0 y1 y2 y3, LeO (q21_number.l0 k y0 y1 y2 y3) (q21_number.l0 (k + 1) y0 y1 y2 y3)) ∧ (∀ y0 y1 y2 y3 y4, LeO (q21_number.j1 k y0 y1 y2 y3 y4) (q21_number.j1 (k + 1) y0 y1 y2 y3 y4))
  | 0 => ⟨fun _ _ _ _ r h => by simp [q21_number.l0] at h, fun _ _ _ _ _ r h => by simp [q21_number.j1] at h⟩
  | k + 1 => by
    obtain ⟨ih0, ih1⟩ := q21_number.mono_l k
    refine ⟨?_, ?_⟩
    · intro y0 y1 y2 y3
      unfold q21_number.l0
      repeat' first
      | (with_reducible exact ih0 _ _ _ _)
      | (with_reducible exact ih1 _ _ _ _ _)
      | (with_reducible exact LeO.refl _)
      | (with_reducible exact LeO.none _)
      | (with_reducible refine LeO.ite ?_ ?_)
      | (with_reducible refine LeO.bind ?_ (fun _ => ?_))
      | exact ih0 _ _ _ _
      | exact ih1 _ _ _ _ _
      | exact LeO.none _
      | refine LeO.ite ?_ ?_
      | refine LeO.bind ?_ (fun _ => ?_)
    · intro y0 y1 y2 y3 y4
      unfold q21_number.j1
      repeat' first
      | (with_reducible exact ih0 _ _ _ _)
      | (with_reducible exact ih1 _ _ _ _ _)
      | (with_reducible exact LeO.refl _)
      | (with_reducible exact LeO.none _)
      | (with_reducible refine LeO.ite ?_ ?_)
      | (with_reducible refine LeO.bind ?_ (fun _ => ?_))
      | exact ih0 _ _ _ _
      | exact ih1 _ _ _ _ _
      | exact LeO.none _
      | refine LeO.ite ?_ ?_
      | refine LeO.bind ?_ (fun _ => ?_)
theorem q21_number.mono : ∀ a0 a1 a2 k, LeO (q21_number.f k a0 a1 a2) (q21_number.f (k + 1) a0 a1 a2) := by
 intro a0 a1 a2 k; obtain ⟨ih0, ih1⟩ := q21_number.mono_l k; unfold q21_number.f
 repeat' first
     | (with_reducible exact ih0 _ _ _ _)
     | (with_reducible exact ih1 _ _ _ _ _)
     | (with_reducible exact LeO.refl _)
     | (with_reducible exact LeO.none _)
     | (with_reducible refine LeO.ite ?_ ?_)
     | (with_reducible refine LeO.bind ?_ (fun _ => ?_))
     | exact ih0 _ _ _ _
     | exact ih1 _ _ _ _ _
     | exact LeO.none _
     | refine LeO.ite ?_ ?_
     | refine LeO.bind ?_ (fun _ => ?_)
theorem q21_number.calls (k : Nat) (A0 : Option Addr) (c0 : Nat) (l0 : List ByteArray) (A1 : Option Addr) (c1 : Nat) (l1 : List Int) (a2 : ByteArray) (r : Int) (w : World) (hr0 : Kd.C Kd.string w A0 l0.length l0) (hc0 : l0.length ≤ c0) (hr1 : Kd.C (Kd.int .i64) w A1 l1.length l1) (hc1 : l1.length ≤ c1) (h : q21_number.f k l0 l1 a2 = some r) :
    Calls Tryd.prog 29 #[.slice A0 l0.length c0, .slice A1 l1.length c1, .string a2] w fun e w' => e = .returned (.int .i64 r) ∧ Drawn0 w w' := by
 have HR0 := aM_ hr0; have HC0 := aM_ hc0; clear hr0 hc0; have HR1 := aM_ hr1; have HC1 := aM_ hc1; clear hr1 hc1; have H : (q21_number.l0 k l0 l1 a2 0) = some r := h; clear h; have H' := aM_ H; clear H; (go_enter Tryd.func29, Tryd.ntmps29); go_wp2; (go_loopg [7] k (fun kq v7 w' => ∃ (x7_1 : Int), v7 = .int .i64 x7_1 ∧ Aside0 (q21_number.l0 kq l0 l1 a2 x7_1 = some r) ∧ Aside0 (kq ≤ k) ∧ Drawn0 w w'))
 case atStart => exact ⟨(0), (by first | rfl | (simp; done) | (simp [*]; done)), H', ⟨Nat.le_refl _⟩, by repeat (first | exact Drawn0.refl _ | apply Drawn0.step)⟩
 case round =>
  clear H'; (try clear c1); (try clear c2); (try clear p2); obtain ⟨x7_1, rfl, HA, HK1, ⟨m1, rfl⟩⟩ := hrel
  cases gk with
  | zero => exact absurd HA.out (by simp [q21_number.l0])
  | succ k1 =>
   have H := HA.out; clear HA; simp only [q21_number.l0] at H; have HC4 := aM_ H; clear H; (go_upto_region 2 with (fail)); (go_cut [17] (fun v17 wc => ∃ (kq : Nat) (x17_3 : Bool), v17 = .bool x17_3 ∧ Aside0 (q21_number.j1 kq l0 l1 a2 x7_1 x17_3 = some r) ∧ Aside0 (kq ≤ k1) ∧ Drawn0 w wc))
   case first =>
    have H := HC4.out; clear HC4; (by_cases c5 : x7_1 < (l0.length : Int))
    · rw [if_pos c5] at H
      have c5b0 : decide (x7_1 < (l0.length : Int)) = true := dT_ c5; clear c5; (first | rw [c5b0] | (simp only [i64_w, i32_w]; rw [c5b0]) | skip); have H' := aM_ H; clear H; go_wp2; (go_meet)
      case rel => exact ⟨_, (decide (x7_1 < (l1.length : Int))), (by first | rfl | (simp; done) | (simp [*]; done)), H', ⟨by have := HK1.out; first | omega | exact Nat.le_refl _⟩, by repeat (first | exact Drawn0.refl _ | apply Drawn0.step)⟩
    · rw [if_neg c5] at H
      have c5b0 : decide (x7_1 < (l0.length : Int)) = false := decide_eq_false c5; clear c5; (first | rw [c5b0] | (simp only [i64_w, i32_w]; rw [c5b0]) | skip); have H' := aM_ H; clear H; go_wp2; (go_meet)
      case rel => exact ⟨_, (false), (by first | rfl | (simp; done) | (simp [*]; done)), H', ⟨by have := HK1.out; first | omega | exact Nat.le_refl _⟩, by repeat (first | exact Drawn0.refl _ | apply Drawn0.step)⟩
   case rest =>
    clear HC4; (try clear c1); (try clear c2); (try clear p2); (try clear c5); (try clear c5b0); (try clear p2); obtain ⟨kq, x17_3, rfl, HA, HJ3, ⟨mc3, rfl⟩⟩ := hcut
    cases kq with
    | zero => exact absurd HA.out (by simp [q21_number.j1])
    | succ kj3 =>
     have H := HA.out; clear HA; simp only [q21_number.j1] at H; (by_cases c6 : x17_3 = true)
     · subst c6
       (have H1 : (if 0 ≤ x7_1 then (if x7_1 < (l0.length : Int) then (if (rdOf ByteArray.empty l0 x7_1).toList = a2.toList then (if x7_1 < (l1.length : Int) then (some (rd l1 x7_1)) else (none)) else (q21_number.l0 kj3 l0 l1 a2 (wrap64 (x7_1 + 1)))) else (none)) else (none)) = some r := by rw [if_pos rfl] at H; exact H); clear H; have H := H1; clear H1; (by_cases c7 : 0 ≤ x7_1)
       · rw [if_pos c7] at H
         have c7b0 : decide (0 ≤ x7_1) = true := dT_ c7; clear c7; (by_cases c8 : x7_1 < (l0.length : Int))
         · rw [if_pos c8] at H
           have c8b0 : decide (x7_1 < (l0.length : Int)) = true := dT_ c8; clear c8; (by_cases c9 : (rdOf ByteArray.empty l0 x7_1).toList = a2.toList); (· rw [if_pos c9] at H; have c9b0 : ((rdOf ByteArray.empty l0 x7_1).toList == a2.toList) = true := beq_iff_eq.mpr c9; have c9b1 : ((rdOf ByteArray.empty l0 x7_1).toList != a2.toList) = false := bne_eq_false_iff_eq.mpr c9; clear c9; (by_cases c10 : x7_1 < (l1.length : Int)); (· rw [if_pos c10] at H; have c10b0 : decide (x7_1 < (l1.length : Int)) = true := dT_ c10; clear c10; obtain rfl := oJ_ H; simp only [oI_, pI_] at H; obtain ⟨rfl⟩ := H; have p290 : 0 ≤ (x7_1 : Int) := oD_ (by assumption); have q290 : x7_1 < (l0.length : Int) := oD_ (by assumption); obtain ⟨ad290, e290, hx290_0⟩ := Kd.at_string HR0.out x7_1 p290 q290; (cases e290); replace p290 := eq_true p290; replace q290 := eq_true q290; have p291 : 0 ≤ (x7_1 : Int) := oD_ (by assumption); have q291 : x7_1 < (l1.length : Int) := oD_ (by assumption); obtain ⟨ad291, e291, hx291_0⟩ := Kd.at_int HR1.out x7_1 p291 q291; (cases e291); replace p291 := eq_true p291; replace q291 := eq_true q291; go_wp2; go_ret; exact ⟨by first | rfl | (simp; done) | (simp [*]; done), by repeat (first | exact Drawn0.refl _ | apply Drawn0.step)⟩); (· rw [if_neg c10] at H; exact absurd H (by simp)))
           · rw [if_neg c9] at H
             have c9b0 : ((rdOf ByteArray.empty l0 x7_1).toList == a2.toList) = false := beq_eq_false_iff_ne.mpr c9; have c9b1 : ((rdOf ByteArray.empty l0 x7_1).toList != a2.toList) = true := bne_iff_ne.mpr c9; have H' := aM_ H; clear H; have p290 : 0 ≤ (x7_1 : Int) := oD_ (by assumption); have q290 : x7_1 < (l0.length : Int) := oD_ (by assumption); obtain ⟨ad290, e290, hx290_0⟩ := Kd.at_string HR0.out x7_1 p290 q290; (cases e290); replace p290 := eq_true p290; replace q290 := eq_true q290; go_wp2; (go_roundg kj3)
             case measure => have := HK1.out; have := HJ3.out; omega
             case rel => exact ⟨(wrap64 (x7_1 + 1)), (by first | rfl | (simp; done) | (simp [*]; done)), H', ⟨by have := HK1.out; have := HJ3.out; omega⟩, by repeat (first | exact Drawn0.refl _ | apply Drawn0.step)⟩
         (· rw [if_neg c8] at H; exact absurd H (by simp))
       (· rw [if_neg c7] at H; exact absurd H (by simp))
     (· replace c6 := Bool.eq_false_iff.mpr c6; subst c6; (have H1 : (some (-1)) = some r := by rw [if_neg (show ¬ (false = true) by decide)] at H; exact H); clear H; have H := H1; clear H1; obtain rfl := oJ_ H; simp only [oI_, pI_] at H; obtain ⟨rfl⟩ := H; go_wp2; go_ret; exact ⟨by first | rfl | (simp; done) | (simp [*]; done), by repeat (first | exact Drawn0.refl _ | apply Drawn0.step)⟩)
end Go.Proofs.YtigbmfogfgbmfaaDoor.Fn
