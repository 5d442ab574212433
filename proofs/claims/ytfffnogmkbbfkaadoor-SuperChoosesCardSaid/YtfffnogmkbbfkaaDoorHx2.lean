import Derived.Test.YtfffnogmkbbfkaaDoorHx0
import Derived.Test.YtfffnogmkbbfkaaDoorHx1
namespace Go.Proofs.YtfffnogmkbbfkaaDoor.Fn
set_option maxHeartbeats 8000000
set_option maxRecDepth 100000
open Go.RowKit Go.Proofs.YtfffnogmkbbfkaaDoorW.PrintWords Go.Proofs.YtfffnogmkbbfkaaDoorW.PrintLast Go.Proofs.YtfffnogmkbbfkaaDoorW.PrintMore
attribute [local go_sem] max2_int min2_int max_two min_two max_three min_three max_four min_four
set_option linter.unusedVariables false
set_option linter.unusedSimpArgs false
def crc_Bytes.l0 : Nat → List Int → Int → Int → Option (List Int)
  | 0, _, _, _ => none
  | k + 1, x3, x4, x14 => if x14 < 4 then (if 0 ≤ (wrap64 (8 * x14)) then (if x3.length < 140737488355328 then (crc_Bytes.l0 k (x3 ++ [(shr .u32 x4 (wrap64 (8 * x14))) % 256]) x4 (wrap64 (x14 + 1))) else (none)) else (none)) else (some x3)
def crc_Bytes.f (k : Nat) (l0 : List Int) : Option (List Int) := if 0 ≤ (wrap64 ((l0.length : Int) + 4)) then (if (wrap64 ((l0.length : Int) + 4) : Int).toNat ≤ 281474976710656 then ((some (([] : List Int) : List Int)).bind fun y110 => (if y110.length + l0.length < 140737488355328 then ((crc_Sum.f k l0).bind fun t116 => (crc_Bytes.l0 k (y110 ++ l0) t116 0)) else (none))) else (none)) else (none)
theorem crc_Bytes.mono_l : ∀ k, (∀ y0 y1 y2, LeO (crc_Bytes.l0 k y0 y1 y2) (crc_Bytes.l0 (k + 1) y0 y1 y2))
  | 0 => fun _ _ _ r h => by simp [crc_Bytes.l0] at h
  | k + 1 => by
    have ih0 := crc_Bytes.mono_l k
    · intro y0 y1 y2
      unfold crc_Bytes.l0
      repeat' first
      | (with_reducible exact ih0 _ _ _)
      | (with_reducible exact crc_Sum.mono _ _)
      | (with_reducible exact LeO.refl _)
      | (with_reducible exact LeO.none _)
      | (with_reducible refine LeO.ite ?_ ?_)
      | (with_reducible refine LeO.bind ?_ (fun _ => ?_))
      | exact ih0 _ _ _
      | exact LeO.none _
      | refine LeO.ite ?_ ?_
      | refine LeO.bind ?_ (fun _ => ?_)
theorem crc_Bytes.mono : ∀ a0 k, LeO (crc_Bytes.f k a0) (crc_Bytes.f (k + 1) a0) := by
 intro a0 k; have ih0 := crc_Bytes.mono_l k; unfold crc_Bytes.f
 repeat' first
     | (with_reducible exact ih0 _ _ _)
     | (with_reducible exact crc_Sum.mono _ _)
     | (with_reducible exact LeO.refl _)
     | (with_reducible exact LeO.none _)
     | (with_reducible refine LeO.ite ?_ ?_)
     | (with_reducible refine LeO.bind ?_ (fun _ => ?_))
     | exact ih0 _ _ _
     | exact LeO.none _
     | refine LeO.ite ?_ ?_
     | refine LeO.bind ?_ (fun _ => ?_)
theorem crc_Bytes.calls (k : Nat) (A0 : Option Addr) (c0 : Nat) (l0 : List Int) (r : List Int) (w : World) (hr0 : Kd.C (Kd.int .u8) w A0 l0.length l0) (hc0 : l0.length ≤ c0) (h : crc_Bytes.f k l0 = some r) :
    Calls Tryd.prog 21 #[.slice A0 l0.length c0] w fun e w' => ∃ v0_ : Value, e = .returned (v0_) ∧ Kd.R (Kd.int .u8) 5 w' w.heap.size (fun _ => True) v0_ r ∧ Below w.heap.size w w' := by
 have HR0 := aM_ hr0; have HC0 := aM_ hc0; clear hr0 hc0; have HB := aM_ (Below.refl w.heap.size w); have H : (if 0 ≤ (wrap64 ((l0.length : Int) + 4)) then (if (wrap64 ((l0.length : Int) + 4) : Int).toNat ≤ 281474976710656 then ((some (([] : List Int) : List Int)).bind fun y110 => (if y110.length + l0.length < 140737488355328 then ((crc_Sum.f k l0).bind fun t116 => (crc_Bytes.l0 k (y110 ++ l0) t116 0)) else (none))) else (none)) else (none)) = some r := h; clear h; obtain ⟨ji2, hji2⟩ : ∃ j_ : Int, (wrap64 ((l0.length : Int) + 4)) = j_ := ⟨_, rfl⟩; (replace H : (if 0 ≤ (ji2) then (if (ji2 : Int).toNat ≤ 281474976710656 then ((some (([] : List Int) : List Int)).bind fun y110 => (if y110.length + l0.length < 140737488355328 then ((crc_Sum.f k l0).bind fun t116 => (crc_Bytes.l0 k (y110 ++ l0) t116 0)) else (none))) else (none)) else (none)) = some r := by first | (rw [hji2] at H; exact H) | (simp only [hji2] at H ⊢; exact H)); have hji2w : (IntKind.i64.wrap ((l0.length : Int) + 4)) = ji2 := (i64_w _).trans hji2; (by_cases c3 : 0 ≤ (ji2))
 · rw [if_pos c3] at H
   have c3b0 := eq_true c3; have c3b1 : decide (0 ≤ (ji2)) = true := dT_ c3; clear c3; (by_cases c4 : (ji2 : Int).toNat ≤ 281474976710656)
   · rw [if_pos c4] at H
     have c4b0 := eq_true c4; have c4b1 : decide ((ji2 : Int).toNat ≤ 281474976710656) = true := dT_ c4; clear c4; obtain ⟨y110, hy110⟩ : ∃ y_ : List Int, y_ = (([] : List Int)) := ⟨_, rfl⟩; (replace H : (if y110.length + l0.length < 140737488355328 then ((crc_Sum.f k l0).bind fun t116 => (crc_Bytes.l0 k (y110 ++ l0) t116 0)) else (none)) = some r := by first | (rw [hy110]; with_reducible exact H) | (have H2_ := (oB_ _ _).symm.trans H; rw [hy110]; with_reducible exact H2_) | (have H2_ := (oB_ _ _).symm.trans H; with_reducible exact H2_) | with_reducible exact H | (rw [hy110]; exact H) | exact H); have Ny110 := aM_ hy110; clear hy110; (by_cases c5 : y110.length + l0.length < 140737488355328)
     · rw [if_pos c5] at H
       have LMc5 := aM_ c5; clear c5; obtain ⟨y113, hy113⟩ : ∃ y_ : List Int, y_ = (y110 ++ l0) := ⟨_, rfl⟩; (replace H : ((crc_Sum.f k l0).bind fun t116 => (crc_Bytes.l0 k y113 t116 0)) = some r := by first | (rw [hy113]; with_reducible exact H) | (have H2_ := (oB_ _ _).symm.trans H; rw [hy113]; with_reducible exact H2_) | (have H2_ := (oB_ _ _).symm.trans H; with_reducible exact H2_) | with_reducible exact H | (rw [hy113]; exact H) | exact H); have Ny113 := aM_ hy113; clear hy113; replace H := Option.bind_eq_some_iff.mp H; obtain ⟨t116, A60, H⟩ := H; replace H : (crc_Bytes.l0 k y113 t116 0) = some r := H; have A6 := aM_ A60; clear A60; have H' := aM_ H; clear H; (go_enter Tryd.func21, Tryd.ntmps21)
       go_wp2_with (first | ((with_reducible refine gate_dst (N := 9) rfl ?_); refine Kd.R_make0 (Kd.int .u8) _ 5 rfl (N := 9) rfl 26 _ _ rfl ji2 rfl rfl Tryd.underlying26 (.int .u8 0) 1 info5 rfl (by decide) (by omega) 0 (ok := fun _ => True) (okp := fun _ => True) rfl (fun _ hk => hk) trivial (oD_ (by assumption)) (Nat.le_trans (Nat.mul_le_mul_right _ (oD_ (by assumption) : ji2.toNat ≤ 281474976710656)) (by omega)) (Below.refl _ _) (Nat.le_refl _) ?_; intro v111 w7 ho8 hb hg_ hnew_; clear hg_ hnew_; (first | rw [← Ny110.out] at ho8 | (simp only [Int.reduceToNat] at ho8; rw [← Ny110.out] at ho8)); have n0_ := aM_ (Kd.R_lower ho8 (bZ_ (bZ0_ HB.out))); have n1_ := aM_ (bT_ (bZ0_ HB.out) hb); clear HB; have HO112 := n0_; have HB := n1_; clear n0_ n1_; clear hb ho8) | ((with_reducible refine gate_builtin (b := .append) (xs := #[.tmp 9, .tmp 10]) rfl ?_); at_builtin; refine Kd.R_append_rows (Kd.int .u8) (w0 := w) w.heap.size rfl (.tmp 9) (.tmp 10) 26 5 (.int .u8 0) 1 rfl Tryd.underlying26 info5 rfl (by decide) (by omega) v111 y110 l0 _ _ _ (fun _ => True) (fun _ => False) rfl rfl ?aO ?aR (fun _ _ h => h) (fun _ h => h.elim) ?aF ?aB ?aS ?aL ?_; (case aR => repeat (first | exact (Kd.C_below HR0.out HB.out) | (with_reducible refine Kd.C_alloc ?_ _) | (with_reducible refine Kd.C_drewN ?_ _) | (with_reducible refine Kd.C_drew ?_))); (case aB => exact (bZ0_ HB.out)); (case aF => exact (fun _ _ => trivial)); (case aO => exact (rZ_ HO112.out)); (case aS => exact (bZ_ (bZ0_ HB.out))); (case aL => have := LMc5.out; omega); intro v114 w9 ho hb hg hat; rw [← Ny113.out] at ho; have n0_ := aM_ (hb); have n1_ := aM_ (ho); clear HB; clear HO112; have HB := n0_; have HO115 := n1_; clear n0_ n1_; clear ho hb hg hat) | ((with_reducible refine gate_callee (f := 37) rfl ?_); refine goesL_ (some 13) rfl rfl Tryd.func37 (by kernel_rfl) rfl #[.slice A0 l0.length c0] rfl (by (try simp only [mA_, mC_, mN_]); first | done | rfl | (simp only [lD_, lT_]; rfl)) ?_; (with_reducible refine (crc_Sum.calls k _ _ l0 t116 _ ?side1 ?side2 A6.out).mono ?_); (case side1 => repeat (first | exact (Kd.C_below HR0.out HB.out) | (with_reducible refine Kd.C_alloc ?_ _) | (with_reducible refine Kd.C_drewN ?_ _) | (with_reducible refine Kd.C_drew ?_))); (case side2 => exact HC0.out); rintro e w' ⟨rfl, ⟨nd, rfl⟩⟩; refine ⟨_, rfl, ?_⟩))
       (go_loopg [3, 14] k (fun kq v3 v14 w' => ∃ (x3_1 : List Int) (x14_1 : Int), v14 = .int .i64 x14_1 ∧ Aside0 (crc_Bytes.l0 kq x3_1 t116 x14_1 = some r) ∧ Aside0 (kq ≤ k) ∧ Aside0 (Kd.R (Kd.int .u8) 5 w' w.heap.size (fun _ => True) v3 x3_1) ∧ Aside0 (Below w.heap.size w w')))
       case atStart => exact ⟨(y113), (0), (by first | rfl | (simp; done) | (simp [*]; done)), H', ⟨Nat.le_refl _⟩, ⟨rZ_ HO115.out⟩, ⟨bZ0_ HB.out⟩⟩
       case round =>
        clear H'; (try clear c2); (try clear p2); (try clear c3); (try clear c3b0); (try clear c3b1); (try clear c4); (try clear c4b0); (try clear c4b1); (try clear c5); (try clear p6); obtain ⟨x3_1, x14_1, rfl, HA, HK1, HO_3, HB⟩ := hrel
        cases gk with
        | zero => exact absurd HA.out (by simp [crc_Bytes.l0])
        | succ k1 =>
         have H := HA.out; clear HA; simp only [crc_Bytes.l0] at H; (by_cases c10 : x14_1 < 4)
         · rw [if_pos c10] at H
           have c10b0 : decide (x14_1 < 4) = true := dT_ c10; clear c10; obtain ⟨ji11, hji11⟩ : ∃ j_ : Int, (wrap64 (8 * x14_1)) = j_ := ⟨_, rfl⟩; (replace H : (if 0 ≤ (ji11) then (if x3_1.length < 140737488355328 then (crc_Bytes.l0 k1 (x3_1 ++ [(shr .u32 t116 (ji11)) % 256]) t116 (wrap64 (x14_1 + 1))) else (none)) else (none)) = some r := by first | (rw [hji11] at H; exact H) | (simp only [hji11] at H ⊢; exact H)); have hji11w : (IntKind.i64.wrap (8 * x14_1)) = ji11 := (i64_w _).trans hji11; (by_cases c12 : 0 ≤ (ji11))
           · rw [if_pos c12] at H
             have c12b0 := eq_true c12; have c12b1 : decide (0 ≤ (ji11)) = true := dT_ c12; clear c12; obtain ⟨ji13, hji13⟩ : ∃ j_ : Int, (shr .u32 t116 (ji11)) = j_ := ⟨_, rfl⟩; (replace H : (if x3_1.length < 140737488355328 then (crc_Bytes.l0 k1 (x3_1 ++ [(ji13) % 256]) t116 (wrap64 (x14_1 + 1))) else (none)) = some r := by first | (rw [hji13] at H; exact H) | (simp only [hji13] at H ⊢; exact H)); have hji13_ : (t116 / 2 ^ min (ji11).toNat 32) = ji13 := hji13; have hji13z : (ji11) ≤ 32 → (t116 / 2 ^ (ji11).toNat) = ji13 := shr_small hji13; (by_cases c14 : x3_1.length < 140737488355328)
             · rw [if_pos c14] at H
               have LMc14 := aM_ c14; clear c14; obtain ⟨y117, hy117⟩ : ∃ y_ : List Int, y_ = (x3_1 ++ [(ji13) % 256]) := ⟨_, rfl⟩; (replace H : (crc_Bytes.l0 k1 y117 t116 (wrap64 (x14_1 + 1))) = some r := by first | (rw [hy117]; with_reducible exact H) | (have H2_ := (oB_ _ _).symm.trans H; rw [hy117]; with_reducible exact H2_) | (have H2_ := (oB_ _ _).symm.trans H; with_reducible exact H2_) | with_reducible exact H | (rw [hy117]; exact H) | exact H); have Ny117 := aM_ hy117; clear hy117; have H' := aM_ H; clear H; (go_wp2_with (first | ((with_reducible refine gate_builtin (b := .append) (xs := #[.tmp 17, .tmp 23]) rfl ?_); at_builtin; refine Kd.R_append (Kd.int .u8) (w0 := w) w.heap.size rfl (.tmp 17) (.tmp 23) 26 5 (.int .u8 0) 1 rfl Tryd.underlying26 info5 rfl (by decide) (by omega) u3 x3_1 ((ji13) % 256) [.int .u8 ((ji13) % 256)] (fun _ => True) (fun _ => False) rfl rfl ?aP (fun _ hk => hk.elim) ?aF ?aO ?aB ?aS ?aL ?_; (case aP => exact rfl); (case aB => exact (bZ0_ HB.out)); (case aF => exact (fun _ _ => trivial)); (case aO => exact (rZ_ HO_3.out)); (case aS => exact (bZ_ (bZ0_ HB.out))); (case aL => have := LMc14.out; omega); intro v118 w15 ho hb hg hat; rw [← Ny117.out] at ho; have n0_ := aM_ (hb); have n1_ := aM_ (ho); clear HB; clear HO_3; have HB := n0_; have HO119 := n1_; clear n0_ n1_; clear ho hb hg hat))); (go_roundg k1)
               case measure => have := HK1.out; omega
               case rel => exact ⟨(y117), (wrap64 (x14_1 + 1)), (by first | rfl | (simp; done) | (simp [*]; done)), H', ⟨by have := HK1.out; omega⟩, ⟨rZ_ HO119.out⟩, ⟨bZ0_ HB.out⟩⟩
             (· rw [if_neg c14] at H; exact absurd H (by simp))
           (· rw [if_neg c12] at H; exact absurd H (by simp))
         (· rw [if_neg c10] at H; have c10b0 : decide (x14_1 < 4) = false := decide_eq_false c10; clear c10; obtain rfl := oJ_ H; simp only [oI_, pI_] at H; obtain ⟨rfl⟩ := H; go_wp2; go_ret; (exact ⟨_, by first | rfl | (simp [errW_none, errW_some] <;> rfl) | (simp only [← hji2]; first | rfl | (simp [errW_none, errW_some] <;> rfl)) | (simp [*, errW_none, errW_some] <;> rfl), by exact rZ_ HO_3.out, by exact bZ0_ HB.out⟩))
     (· rw [if_neg c5] at H; exact absurd H (by simp))
   (· rw [if_neg c4] at H; exact absurd H (by simp))
 (· rw [if_neg c3] at H; exact absurd H (by simp))
def growNil (n : Int) : Option (List Int) := if 0 ≤ n then (if n ≤ 140737488355328 then some [] else none) else none
set_option maxHeartbeats 4000000 in
theorem slices_Grow_nil (n : Int) (r : List Int) (w : World) (h : growNil n = some r) :
    Calls Tryd.prog 38 #[.slice none 0 0, .int .i64 n] w fun e w' => ∃ v0_ : Value, e = .returned (v0_) ∧ Kd.R (Kd.int .u8) 5 w' w.heap.size (fun _ => True) v0_ r ∧ Below w.heap.size w w' := by
 unfold growNil at h; (by_cases h0 : 0 ≤ n); (· rw [if_pos h0] at h; (by_cases hn : n ≤ 140737488355328); (· rw [if_pos hn] at h; obtain rfl := oJ_ h; clear h; have HB := aM_ (Below.refl w.heap.size w); (by_cases hz : n = 0); (· subst hz; clear h0 hn; (go_enter Tryd.func38, Tryd.ntmps38); go_wp2; go_ret; exact ⟨_, rfl, Kd.R_nil _ _ _ _ _, HB.out⟩); (· (have hp : 0 < n := by omega); have d1 : decide (n < 0) = false := decide_eq_false (by omega); (have e1 : wrap64 n = n := by unfold wrap64; omega); have d2 : decide (0 < wrap64 n) = true := dT_ (by rw [e1]; exact hp); have HN := aM_ hn; have HP := aM_ hp; have E1 := aM_ e1; clear hn hz h0 hp e1; (go_enter Tryd.func38, Tryd.ntmps38); (go_wp2_with (at_builtin; refine Kd.R_append_zeros (Kd.int .u8) (w0 := w) w.heap.size rfl (.tmp 20) (.tmp 21) 26 3 5 (.int .u8 0) 1 rfl Tryd.underlying26 Tryd.underlying3 info5 rfl (by decide) (by omega) (.slice none 0 0) ([] : List Int) 0 (wrap64 n) (fun _ => True) rfl rfl rfl (fun _ _ => trivial) (Kd.R_nil _ _ _ _ _) (by rw [E1.out]; have := HP.out; omega) HB.out (Nat.le_refl _) (by rw [E1.out]; have := HN.out; simp; omega) ?_; intro v1 w1 ho hb hg hat; rw [E1.out] at ho; obtain ⟨g, cap, hv, _, _, _⟩ := Kd.R_form ho (by have := HP.out; simp; omega); subst hv; have HO := aM_ ho; have HB1 := aM_ hb; clear ho hb hg hat)); go_ret; exact ⟨_, rfl, Kd.R_take (m := 0) HO.out (Nat.zero_le _), HB1.out⟩)); (· rw [if_neg hn] at h; (cases h))); (· rw [if_neg h0] at h; (cases h))
mutual
def slices_Concat_byte_byte.l0 : Nat → List (List Int) → Int → List (List Int) → Int → Int → Option (List Int)
  | 0, _, _, _, _, _ => none
  | k + 1, x0, x3, x9, x10, x11 => if x11 < x10 then (if 0 ≤ x11 then (if x11 < (x9.length : Int) then (if (wrap64 (x3 + ((rd_L1 x9 x11).length : Int))) < 0 then (none) else (slices_Concat_byte_byte.l0 k x0 (wrap64 (x3 + ((rd_L1 x9 x11).length : Int))) x9 x10 (wrap64 (x11 + 1)))) else (none)) else (none)) else ((growNil x3).bind fun t208 => (slices_Concat_byte_byte.l1 k t208 x0 (x0.length : Int) 0))
def slices_Concat_byte_byte.l1 : Nat → List Int → List (List Int) → Int → Int → Option (List Int)
  | 0, _, _, _, _ => none
  | k + 1, x6, x25, x26, x27 => if x27 < x26 then (if 0 ≤ x27 then (if x27 < (x25.length : Int) then (if x6.length + (rd_L1 x25 x27).length < 140737488355328 then (slices_Concat_byte_byte.l1 k (x6 ++ (rd_L1 x25 x27)) x25 x26 (wrap64 (x27 + 1))) else (none)) else (none)) else (none)) else (some x6)
end
def slices_Concat_byte_byte.f (k : Nat) (l0 : List (List Int)) : Option (List Int) := slices_Concat_byte_byte.l0 k l0 0 l0 (l0.length : Int) 0
theorem slices_Concat_byte_byte.mono_l : ∀ k, (∀ y0 y1 y2 y3 y4, LeO (slices_Concat_byte_byte.l0 k y0 y1 y2 y3 y4) (slices_Concat_byte_byte.l0 (k + 1) y0 y1 y2 y3 y4)) ∧ (∀ y0 y1 y2 y3, LeO (slices_Concat_byte_byte.l1 k y0 y1 y2 y3) (slices_Concat_byte_byte.l1 (k + 1) y0 y1 y2 y3))
  | 0 => ⟨fun _ _ _ _ _ r h => by simp [slices_Concat_byte_byte.l0] at h, fun _ _ _ _ r h => by simp [slices_Concat_byte_byte.l1] at h⟩
  | k + 1 => by
    obtain ⟨ih0, ih1⟩ := slices_Concat_byte_byte.mono_l k
    refine ⟨?_, ?_⟩
    · intro y0 y1 y2 y3 y4
      unfold slices_Concat_byte_byte.l0
      repeat' first
      | (with_reducible exact ih0 _ _ _ _ _)
      | (with_reducible exact ih1 _ _ _ _)
      | (with_reducible exact LeO.refl _)
      | (with_reducible exact LeO.none _)
      | (with_reducible refine LeO.ite ?_ ?_)
      | (with_reducible refine LeO.bind ?_ (fun _ => ?_))
      | exact ih0 _ _ _ _ _
      | exact ih1 _ _ _ _
      | exact LeO.none _
      | refine LeO.ite ?_ ?_
      | refine LeO.bind ?_ (fun _ => ?_)
    · intro y0 y1 y2 y3
      unfold slices_Concat_byte_byte.l1
      repeat' first
      | (with_reducible exact ih0 _ _ _ _ _)
      | (with_reducible exact ih1 _ _ _ _)
      | (with_reducible exact LeO.refl _)
      | (with_reducible exact LeO.none _)
      | (with_reducible refine LeO.ite ?_ ?_)
      | (with_reducible refine LeO.bind ?_ (fun _ => ?_))
      | exact ih0 _ _ _ _ _
      | exact ih1 _ _ _ _
      | exact LeO.none _
      | refine LeO.ite ?_ ?_
      | refine LeO.bind ?_ (fun _ => ?_)
theorem slices_Concat_byte_byte.mono : ∀ a0 k, LeO (slices_Concat_byte_byte.f k a0) (slices_Concat_byte_byte.f (k + 1) a0) := by
 intro a0 k; obtain ⟨ih0, ih1⟩ := slices_Concat_byte_byte.mono_l k; unfold slices_Concat_byte_byte.f
 repeat' first
     | (with_reducible exact ih0 _ _ _ _ _)
     | (with_reducible exact ih1 _ _ _ _)
     | (with_reducible exact LeO.refl _)
     | (with_reducible exact LeO.none _)
     | (with_reducible refine LeO.ite ?_ ?_)
     | (with_reducible refine LeO.bind ?_ (fun _ => ?_))
     | exact ih0 _ _ _ _ _
     | exact ih1 _ _ _ _
     | exact LeO.none _
     | refine LeO.ite ?_ ?_
     | refine LeO.bind ?_ (fun _ => ?_)
theorem slices_Concat_byte_byte.calls (k : Nat) (A0 : Option Addr) (c0 : Nat) (l0 : List (List Int)) (r : List Int) (w : World) (hr0 : Kd.C (Kd.slice 5 (Kd.int .u8)) w A0 l0.length l0) (hc0 : l0.length ≤ c0) (h : slices_Concat_byte_byte.f k l0 = some r) :
    Calls Tryd.prog 22 #[.slice A0 l0.length c0] w fun e w' => ∃ v0_ : Value, e = .returned (v0_) ∧ Kd.R (Kd.int .u8) 5 w' w.heap.size (fun _ => True) v0_ r ∧ Below w.heap.size w w' := by
 have HR0 := aM_ hr0; have HC0 := aM_ hc0; clear hr0 hc0; have HB := aM_ (Below.refl w.heap.size w); have H : (slices_Concat_byte_byte.l0 k l0 0 l0 (l0.length : Int) 0) = some r := h; clear h; have H' := aM_ H; clear H; (go_enter Tryd.func22, Tryd.ntmps22); go_wp2; (go_loopg [3, 11] k (fun kq v3 v11 w' => ∃ (x3_1 : Int) (x11_1 : Int), v3 = .int .i64 x3_1 ∧ v11 = .int .i64 x11_1 ∧ Aside0 (slices_Concat_byte_byte.l0 kq l0 x3_1 l0 (l0.length : Int) x11_1 = some r) ∧ Aside0 (kq ≤ k) ∧ Aside0 (Below w.heap.size w w')))
 case atStart => exact ⟨(0), (0), (by first | rfl | (simp; done) | (simp [*]; done)), (by first | rfl | (simp; done) | (simp [*]; done)), H', ⟨Nat.le_refl _⟩, ⟨bZ0_ HB.out⟩⟩
 case round =>
  clear H'; obtain ⟨x3_1, x11_1, rfl, rfl, HA, HK1, HB⟩ := hrel
  cases gk with
  | zero => exact absurd HA.out (by simp [slices_Concat_byte_byte.l0])
  | succ k1 =>
   have H := HA.out; clear HA; simp only [slices_Concat_byte_byte.l0] at H; (by_cases c2 : x11_1 < (l0.length : Int))
   · rw [if_pos c2] at H
     have c2b0 : decide (x11_1 < (l0.length : Int)) = true := dT_ c2; clear c2; (by_cases c3 : 0 ≤ x11_1)
     · rw [if_pos c3] at H
       have c3b0 : decide (0 ≤ x11_1) = true := dT_ c3; clear c3; (by_cases c4 : x11_1 < (l0.length : Int))
       · rw [if_pos c4] at H
         have c4b0 : decide (x11_1 < (l0.length : Int)) = true := dT_ c4; clear c4; (by_cases c5 : (wrap64 (x3_1 + ((rd_L1 l0 x11_1).length : Int))) < 0); (· rw [if_pos c5] at H; exact absurd H (by simp))
         · rw [if_neg c5] at H
           have c5b0 : decide ((wrap64 (x3_1 + ((rd_L1 l0 x11_1).length : Int))) < 0) = false := decide_eq_false c5; clear c5; have H' := aM_ H; clear H; have p207 : 0 ≤ (x11_1 : Int) := oD_ (by assumption); have q207 : x11_1 < (l0.length : Int) := oD_ (by assumption); obtain ⟨ad207, A207_0, c207_0, e207, hx207_0, hl207_0, hi207_0⟩ := at_L1 HR0.out x11_1 p207 q207; (cases e207); replace hx207_0 := (HB.out.cell (lC_ w _ hx207_0)).trans hx207_0; have HR207_0 := aM_ hi207_0; have HC207_0 := aM_ hl207_0; clear hi207_0 hl207_0; replace p207 := eq_true p207; replace q207 := eq_true q207; go_wp2; (go_roundg k1)
           case measure => have := HK1.out; omega
           case rel => exact ⟨(wrap64 (x3_1 + ((rd_L1 l0 x11_1).length : Int))), (wrap64 (x11_1 + 1)), (by first | rfl | (simp; done) | (simp [*]; done)), (by first | rfl | (simp; done) | (simp [*]; done)), H', ⟨by have := HK1.out; omega⟩, ⟨bZ0_ HB.out⟩⟩
       (· rw [if_neg c4] at H; exact absurd H (by simp))
     (· rw [if_neg c3] at H; exact absurd H (by simp))
   · rw [if_neg c2] at H
     have c2b0 : decide (x11_1 < (l0.length : Int)) = false := decide_eq_false c2; clear c2; replace H := Option.bind_eq_some_iff.mp H; obtain ⟨t208, A60, H⟩ := H; replace H : (slices_Concat_byte_byte.l1 k1 t208 l0 (l0.length : Int) 0) = some r := H; have A6 := aM_ A60; clear A60; have H' := aM_ H; clear H; (go_wp2_with (first | ((with_reducible refine gate_callee (f := 38) rfl ?_); refine goesL_ (some 24) rfl rfl Tryd.func38 (by kernel_rfl) rfl #[.slice none 0 0, .int .i64 x3_1] rfl (by (try simp only [mA_, mC_, mN_]); first | done | rfl | (simp only [lD_, lT_]; rfl)) ?_; (refine (slices_Grow_nil x3_1 t208 _ A6.out).mono ?_); rintro e w7 ⟨v209, rfl, ho0, hb⟩; refine ⟨_, rfl, ?_⟩; have n0_ := aM_ (Kd.R_lower ho0 (bZ_ (bZ0_ HB.out))); have n1_ := aM_ (bT_ (bZ0_ HB.out) hb); clear HB; have HO210 := n0_; have HB := n1_; clear n0_ n1_; (try clear hb); (try clear hb2); (try clear hk); (try clear hi); (try clear ho0)))); (go_loopg [6, 27] k1 (fun kq v6 v27 w' => ∃ (x6_2 : List Int) (x27_2 : Int), v27 = .int .i64 x27_2 ∧ Aside0 (slices_Concat_byte_byte.l1 kq x6_2 l0 (l0.length : Int) x27_2 = some r) ∧ Aside0 (kq ≤ k1) ∧ Aside0 (Kd.R (Kd.int .u8) 5 w' w.heap.size (fun _ => True) v6 x6_2) ∧ Aside0 (Below w.heap.size w w')))
     case atStart => exact ⟨(t208), (0), (by first | rfl | (simp; done) | (simp [*]; done)), H', ⟨Nat.le_refl _⟩, ⟨rZ_ HO210.out⟩, ⟨bZ0_ HB.out⟩⟩
     case round =>
      clear H'; (try clear c1); (try clear c2); (try clear c2b0); (try clear p2); (try clear q2); (try clear hx2); (try clear c3); (try clear c3b0); (try clear c4); (try clear c4b0); (try clear c5); (try clear c5b0); (try clear p6); (try clear c7); (try clear hx207_0); (try clear p207); (try clear q207); obtain ⟨x6_2, x27_2, rfl, HA, HK2, HO_6, HB⟩ := hrel
      cases gk with
      | zero => exact absurd HA.out (by simp [slices_Concat_byte_byte.l1])
      | succ k2 =>
       have H := HA.out; clear HA; simp only [slices_Concat_byte_byte.l1] at H; (by_cases c8 : x27_2 < (l0.length : Int))
       · rw [if_pos c8] at H
         have c8b0 : decide (x27_2 < (l0.length : Int)) = true := dT_ c8; clear c8; (by_cases c9 : 0 ≤ x27_2)
         · rw [if_pos c9] at H
           have c9b0 : decide (0 ≤ x27_2) = true := dT_ c9; clear c9; (by_cases c10 : x27_2 < (l0.length : Int))
           · rw [if_pos c10] at H
             have c10b0 : decide (x27_2 < (l0.length : Int)) = true := dT_ c10; clear c10; (by_cases c11 : x6_2.length + (rd_L1 l0 x27_2).length < 140737488355328)
             · rw [if_pos c11] at H
               have LMc11 := aM_ c11; clear c11; obtain ⟨y212, hy212⟩ : ∃ y_ : List Int, y_ = (x6_2 ++ (rd_L1 l0 x27_2)) := ⟨_, rfl⟩; (replace H : (slices_Concat_byte_byte.l1 k2 y212 l0 (l0.length : Int) (wrap64 (x27_2 + 1))) = some r := by first | (rw [hy212]; with_reducible exact H) | (have H2_ := (oB_ _ _).symm.trans H; rw [hy212]; with_reducible exact H2_) | (have H2_ := (oB_ _ _).symm.trans H; with_reducible exact H2_) | with_reducible exact H | (rw [hy212]; exact H) | exact H); have Ny212 := aM_ hy212; clear hy212; have H' := aM_ H; clear H; have p211 : 0 ≤ (x27_2 : Int) := oD_ (by assumption); have q211 : x27_2 < (l0.length : Int) := oD_ (by assumption); obtain ⟨ad211, A211_0, c211_0, e211, hx211_0, hl211_0, hi211_0⟩ := at_L1 HR0.out x27_2 p211 q211; (cases e211); replace hx211_0 := (HB.out.cell (lC_ w _ hx211_0)).trans hx211_0; have HR211_0 := aM_ hi211_0; have HC211_0 := aM_ hl211_0; clear hi211_0 hl211_0; replace p211 := eq_true p211; replace q211 := eq_true q211
               go_wp2_with (first | ((with_reducible refine gate_builtin (b := .append) (xs := #[.tmp 31, .tmp 32]) rfl ?_); at_builtin; refine Kd.R_append_rows (Kd.int .u8) (w0 := w) w.heap.size rfl (.tmp 31) (.tmp 32) 26 5 (.int .u8 0) 1 rfl Tryd.underlying26 info5 rfl (by decide) (by omega) u6 x6_2 (rd_L1 l0 x27_2) _ _ _ (fun _ => True) (fun _ => False) rfl rfl ?aO ?aR (fun _ _ h => h) (fun _ h => h.elim) ?aF ?aB ?aS ?aL ?_; (case aR => repeat (first | exact (Kd.C_below HR211_0.out HB.out) | (with_reducible refine Kd.C_alloc ?_ _) | (with_reducible refine Kd.C_drewN ?_ _) | (with_reducible refine Kd.C_drew ?_))); (case aB => exact (bZ0_ HB.out)); (case aF => exact (fun _ _ => trivial)); (case aO => exact (rZ_ HO_6.out)); (case aS => exact (bZ_ (bZ0_ HB.out))); (case aL => have := LMc11.out; omega); intro v213 w12 ho hb hg hat; rw [← Ny212.out] at ho; have n0_ := aM_ (hb); have n1_ := aM_ (ho); clear HB; clear HO_6; have HB := n0_; have HO214 := n1_; clear n0_ n1_; clear ho hb hg hat))
               (go_roundg k2)
               case measure => have := HK1.out; have := HK2.out; omega
               case rel => exact ⟨(y212), (wrap64 (x27_2 + 1)), (by first | rfl | (simp; done) | (simp [*]; done)), H', ⟨by have := HK1.out; have := HK2.out; omega⟩, ⟨rZ_ HO214.out⟩, ⟨bZ0_ HB.out⟩⟩
             (· rw [if_neg c11] at H; exact absurd H (by simp))
           (· rw [if_neg c10] at H; exact absurd H (by simp))
         (· rw [if_neg c9] at H; exact absurd H (by simp))
       (· rw [if_neg c8] at H; have c8b0 : decide (x27_2 < (l0.length : Int)) = false := decide_eq_false c8; clear c8; obtain rfl := oJ_ H; simp only [oI_, pI_] at H; obtain ⟨rfl⟩ := H; go_wp2; go_ret; (exact ⟨_, by first | rfl | (simp [errW_none, errW_some] <;> rfl) | (simp [*, errW_none, errW_some] <;> rfl), by exact rZ_ HO_6.out, by exact bZ0_ HB.out⟩))
def super_number.l0 : Nat → Int → List Int → Int → Option (List Int)
  | 0, _, _, _ => none
  | k + 1, x0, x3, x5 => if x5 < 8 then (if 0 ≤ (wrap64 (8 * x5)) then (if x3.length < 140737488355328 then (super_number.l0 k x0 (x3 ++ [(shr .u64 x0 (wrap64 (8 * x5))) % 256]) (wrap64 (x5 + 1))) else (none)) else (none)) else (some x3)
def super_number.f (k : Nat) (a0 : Int) : Option (List Int) := super_number.l0 k a0 ([] : List Int) 0
theorem super_number.mono_l : ∀ k, (∀ y0 y1 y2, LeO (super_number.l0 k y0 y1 y2) (super_number.l0 (k + 1) y0 y1 y2))
  | 0 => fun _ _ _ r h => by simp [super_number.l0] at h
  | k + 1 => by
    have ih0 := super_number.mono_l k
    · intro y0 y1 y2
      unfold super_number.l0
      repeat' first
      | (with_reducible exact ih0 _ _ _)
      | (with_reducible exact LeO.refl _)
      | (with_reducible exact LeO.none _)
      | (with_reducible refine LeO.ite ?_ ?_)
      | (with_reducible refine LeO.bind ?_ (fun _ => ?_))
      | exact ih0 _ _ _
      | exact LeO.none _
      | refine LeO.ite ?_ ?_
      | refine LeO.bind ?_ (fun _ => ?_)
theorem super_number.mono : ∀ a0 k, LeO (super_number.f k a0) (super_number.f (k + 1) a0) := by
 intro a0 k; have ih0 := super_number.mono_l k; unfold super_number.f
 repeat' first
     | (with_reducible exact ih0 _ _ _)
     | (with_reducible exact LeO.refl _)
     | (with_reducible exact LeO.none _)
     | (with_reducible refine LeO.ite ?_ ?_)
     | (with_reducible refine LeO.bind ?_ (fun _ => ?_))
     | exact ih0 _ _ _
     | exact LeO.none _
     | refine LeO.ite ?_ ?_
     | refine LeO.bind ?_ (fun _ => ?_)
theorem super_number.calls (k : Nat) (a0 : Int) (r : List Int) (w : World) (h : super_number.f k a0 = some r) :
    Calls Tryd.prog 23 #[.int .u64 a0] w fun e w' => ∃ v0_ : Value, e = .returned (v0_) ∧ Kd.R (Kd.int .u8) 5 w' w.heap.size (fun _ => True) v0_ r ∧ Below w.heap.size w w' := by
 have HB := aM_ (Below.refl w.heap.size w); have H : (super_number.l0 k a0 ([] : List Int) 0) = some r := h; clear h; have H' := aM_ H; clear H; (go_enter Tryd.func23, Tryd.ntmps23); go_wp2; (go_loopg [3, 5] k (fun kq v3 v5 w' => ∃ (x3_1 : List Int) (x5_1 : Int), v5 = .int .i64 x5_1 ∧ Aside0 (super_number.l0 kq a0 x3_1 x5_1 = some r) ∧ Aside0 (kq ≤ k) ∧ Aside0 (Kd.R (Kd.int .u8) 5 w' w.heap.size (fun _ => True) v3 x3_1) ∧ Aside0 (Below w.heap.size w w')))
 case atStart => exact ⟨(([] : List Int)), (0), (by first | rfl | (simp; done) | (simp [*]; done)), H', ⟨Nat.le_refl _⟩, ⟨by first | exact Kd.R_nil _ _ _ _ _ | exact Kd.N_nil _ _ _ _ _ | exact Kd.V_nil _ _ _ _ _ | exact Kd.Q_nil _ _ _ _ _ | exact Kd.S_nil _ _ _ _ _⟩, ⟨bZ0_ HB.out⟩⟩
 case round =>
  clear H'; obtain ⟨x3_1, x5_1, rfl, HA, HK1, HO_3, HB⟩ := hrel
  cases gk with
  | zero => exact absurd HA.out (by simp [super_number.l0])
  | succ k1 =>
   have H := HA.out; clear HA; simp only [super_number.l0] at H; (by_cases c2 : x5_1 < 8)
   · rw [if_pos c2] at H
     have c2b0 : decide (x5_1 < 8) = true := dT_ c2; clear c2; obtain ⟨ji3, hji3⟩ : ∃ j_ : Int, (wrap64 (8 * x5_1)) = j_ := ⟨_, rfl⟩; (replace H : (if 0 ≤ (ji3) then (if x3_1.length < 140737488355328 then (super_number.l0 k1 a0 (x3_1 ++ [(shr .u64 a0 (ji3)) % 256]) (wrap64 (x5_1 + 1))) else (none)) else (none)) = some r := by first | (rw [hji3] at H; exact H) | (simp only [hji3] at H ⊢; exact H)); have hji3w : (IntKind.i64.wrap (8 * x5_1)) = ji3 := (i64_w _).trans hji3; (by_cases c4 : 0 ≤ (ji3))
     · rw [if_pos c4] at H
       have c4b0 := eq_true c4; have c4b1 : decide (0 ≤ (ji3)) = true := dT_ c4; clear c4; obtain ⟨ji5, hji5⟩ : ∃ j_ : Int, (shr .u64 a0 (ji3)) = j_ := ⟨_, rfl⟩; (replace H : (if x3_1.length < 140737488355328 then (super_number.l0 k1 a0 (x3_1 ++ [(ji5) % 256]) (wrap64 (x5_1 + 1))) else (none)) = some r := by first | (rw [hji5] at H; exact H) | (simp only [hji5] at H ⊢; exact H)); have hji5_ : (a0 / 2 ^ min (ji3).toNat 64) = ji5 := hji5; have hji5z : (ji3) ≤ 64 → (a0 / 2 ^ (ji3).toNat) = ji5 := shr_small hji5; (by_cases c6 : x3_1.length < 140737488355328)
       · rw [if_pos c6] at H
         have LMc6 := aM_ c6; clear c6; obtain ⟨y120, hy120⟩ : ∃ y_ : List Int, y_ = (x3_1 ++ [(ji5) % 256]) := ⟨_, rfl⟩; (replace H : (super_number.l0 k1 a0 y120 (wrap64 (x5_1 + 1))) = some r := by first | (rw [hy120]; with_reducible exact H) | (have H2_ := (oB_ _ _).symm.trans H; rw [hy120]; with_reducible exact H2_) | (have H2_ := (oB_ _ _).symm.trans H; with_reducible exact H2_) | with_reducible exact H | (rw [hy120]; exact H) | exact H); have Ny120 := aM_ hy120; clear hy120; have H' := aM_ H; clear H; (go_wp2_with (first | ((with_reducible refine gate_builtin (b := .append) (xs := #[.tmp 8, .tmp 14]) rfl ?_); at_builtin; refine Kd.R_append (Kd.int .u8) (w0 := w) w.heap.size rfl (.tmp 8) (.tmp 14) 26 5 (.int .u8 0) 1 rfl Tryd.underlying26 info5 rfl (by decide) (by omega) u3 x3_1 ((ji5) % 256) [.int .u8 ((ji5) % 256)] (fun _ => True) (fun _ => False) rfl rfl ?aP (fun _ hk => hk.elim) ?aF ?aO ?aB ?aS ?aL ?_; (case aP => exact rfl); (case aB => exact (bZ0_ HB.out)); (case aF => exact (fun _ _ => trivial)); (case aO => exact (rZ_ HO_3.out)); (case aS => exact (bZ_ (bZ0_ HB.out))); (case aL => have := LMc6.out; omega); intro v121 w7 ho hb hg hat; rw [← Ny120.out] at ho; have n0_ := aM_ (hb); have n1_ := aM_ (ho); clear HB; clear HO_3; have HB := n0_; have HO122 := n1_; clear n0_ n1_; clear ho hb hg hat))); (go_roundg k1)
         case measure => have := HK1.out; omega
         case rel => exact ⟨(y120), (wrap64 (x5_1 + 1)), (by first | rfl | (simp; done) | (simp [*]; done)), H', ⟨by have := HK1.out; omega⟩, ⟨rZ_ HO122.out⟩, ⟨bZ0_ HB.out⟩⟩
       (· rw [if_neg c6] at H; exact absurd H (by simp))
     (· rw [if_neg c4] at H; exact absurd H (by simp))
   (· rw [if_neg c2] at H; have c2b0 : decide (x5_1 < 8) = false := decide_eq_false c2; clear c2; obtain rfl := oJ_ H; simp only [oI_, pI_] at H; obtain ⟨rfl⟩ := H; go_wp2; go_ret; (exact ⟨_, by first | rfl | (simp [errW_none, errW_some] <;> rfl) | (simp [*, errW_none, errW_some] <;> rfl), by exact rZ_ HO_3.out, by exact bZ0_ HB.out⟩))
theorem rows4_ {w : World} {A0 A1 A2 A3 : Option Addr} {c0 c1 c2 c3 : Nat} {l0 l1 l2 l3 : List Int} (h0 : l0.length ≤ c0) (g0 : (Kd.int .u8).C w A0 l0.length l0) (h1 : l1.length ≤ c1) (g1 : (Kd.int .u8).C w A1 l1.length l1) (h2 : l2.length ≤ c2) (g2 : (Kd.int .u8).C w A2 l2.length l2) (h3 : l3.length ≤ c3) (g3 : (Kd.int .u8).C w A3 l3.length l3) :
    ∀ v ∈ [(A0, c0, l0), (A1, c1, l1), (A2, c2, l2), (A3, c3, l3)], v.2.2.length ≤ v.2.1 ∧ (Kd.int .u8).C w v.1 v.2.2.length v.2.2 := by
 intro v hv; simp only [List.mem_cons, List.not_mem_nil, or_false] at hv
 rcases hv with rfl | rfl | rfl | rfl
 (· exact ⟨h0, g0⟩); (· exact ⟨h1, g1⟩); (· exact ⟨h2, g2⟩); (· exact ⟨h3, g3⟩)
def super_Put.l0 : Nat → List Int → Int → List Int → Int → Int → Int → ByteArray → List Int → Option (List Int × Int)
  | 0, _, _, _, _, _, _, _, _ => none
  | k + 1, x4, x6, x20, x21, x22, x139000, x139001, x139002 => if x22 < x21 then (if 0 ≤ x22 then (if x22 < (x20.length : Int) then (if 0 ≤ (rd x20 x22) then (super_Put.l0 k x4 (Go.bits .or .u64 x6 (shl .u64 1 (rd x20 x22))) x20 x21 (wrap64 (x22 + 1)) x139000 x139001 x139002) else (none)) else (none)) else (none)) else ((super_number.f k (IntKind.u64.wrap (x139000))).bind fun t149 => ((super_number.f k x6).bind fun t152 => ((slices_Concat_byte_byte.f k [(([80, 76, 77, 80] : List Int)), t149, x4, t152]).bind fun t155 => ((crc_Bytes.f k t155).bind fun t158 => (if 0 ≤ (wrap64 (256 - (t158.length : Int))) then (if t158.length + (wrap64 (256 - (t158.length : Int)) : Int).toNat < 140737488355328 then (some ((t158 ++ List.replicate (wrap64 (256 - (t158.length : Int)) : Int).toNat 0), 0)) else (none)) else (none))))))
def super_Put.f (k : Nat) (a0_0 : Int) (a0_1 : ByteArray) (l0_2 : List Int) : Option (List Int × Int) := (super_right.f k a0_0 a0_1 l0_2).bind fun t139 => (if t139 = true then ((key_Bytes.f a0_1).bind fun bt140 => (super_Put.l0 k bt140.1 0 l0_2 (l0_2.length : Int) 0 a0_0 a0_1 l0_2)) else (some (([] : List Int), 110)))
theorem super_Put.mono_l : ∀ k, (∀ y0 y1 y2 y3 y4 y5 y6 y7, LeO (super_Put.l0 k y0 y1 y2 y3 y4 y5 y6 y7) (super_Put.l0 (k + 1) y0 y1 y2 y3 y4 y5 y6 y7))
  | 0 => fun _ _ _ _ _ _ _ _ r h => by simp [super_Put.l0] at h
  | k + 1 => by
    have ih0 := super_Put.mono_l k
    · intro y0 y1 y2 y3 y4 y5 y6 y7
      unfold super_Put.l0
      repeat' first
      | (with_reducible exact ih0 _ _ _ _ _ _ _ _)
      | (with_reducible exact crc_Bytes.mono _ _)
      | (with_reducible exact slices_Concat_byte_byte.mono _ _)
      | (with_reducible exact super_number.mono _ _)
      | (with_reducible exact super_right.mono _ _ _ _)
      | (with_reducible exact LeO.refl _)
      | (with_reducible exact LeO.none _)
      | (with_reducible refine LeO.ite ?_ ?_)
      | (with_reducible refine LeO.bind ?_ (fun _ => ?_))
      | exact ih0 _ _ _ _ _ _ _ _
      | exact LeO.none _
      | refine LeO.ite ?_ ?_
      | refine LeO.bind ?_ (fun _ => ?_)
theorem super_Put.mono : ∀ a0 a1 a2 k, LeO (super_Put.f k a0 a1 a2) (super_Put.f (k + 1) a0 a1 a2) := by
 intro a0 a1 a2 k; have ih0 := super_Put.mono_l k; unfold super_Put.f
 repeat' first
     | (with_reducible exact ih0 _ _ _ _ _ _ _ _)
     | (with_reducible exact crc_Bytes.mono _ _)
     | (with_reducible exact slices_Concat_byte_byte.mono _ _)
     | (with_reducible exact super_number.mono _ _)
     | (with_reducible exact super_right.mono _ _ _ _)
     | (with_reducible exact LeO.refl _)
     | (with_reducible exact LeO.none _)
     | (with_reducible refine LeO.ite ?_ ?_)
     | (with_reducible refine LeO.bind ?_ (fun _ => ?_))
     | exact ih0 _ _ _ _ _ _ _ _
     | exact LeO.none _
     | refine LeO.ite ?_ ?_
     | refine LeO.bind ?_ (fun _ => ?_)
theorem super_Put.calls (k : Nat) (a0_0 : Int) (a0_1 : ByteArray) (A0_2 : Option Addr) (c0_2 : Nat) (l0_2 : List Int) (r1 : List Int) (r2 : Int) (w : World) (hr0_2 : Kd.C (Kd.int .i64) w A0_2 l0_2.length l0_2) (hc0_2 : l0_2.length ≤ c0_2) (h : super_Put.f k a0_0 a0_1 l0_2 = some (r1, r2)) :
    Calls Tryd.prog 8 #[.agg #[.int .i64 a0_0, .string a0_1, .slice A0_2 l0_2.length c0_2]] w fun e w' => ∃ v0_ : Value, e = .returned (.tuple #[v0_, .int .i64 r2]) ∧ Kd.R (Kd.int .u8) 5 w' w.heap.size (fun _ => True) v0_ r1 ∧ Below w.heap.size w w' := by
 have hu25 := Tryd.underlying25; have HR0_2 := aM_ hr0_2; have HC0_2 := aM_ hc0_2; clear hr0_2 hc0_2; have HB := aM_ (Below.refl w.heap.size w); have H : ((super_right.f k a0_0 a0_1 l0_2).bind fun t139 => (if t139 = true then ((key_Bytes.f a0_1).bind fun bt140 => (super_Put.l0 k bt140.1 0 l0_2 (l0_2.length : Int) 0 a0_0 a0_1 l0_2)) else (some (([] : List Int), 110)))) = some (r1, r2) := h; clear h; replace H := Option.bind_eq_some_iff.mp H; obtain ⟨t139, A20, H⟩ := H; replace H : (if t139 = true then ((key_Bytes.f a0_1).bind fun bt140 => (super_Put.l0 k bt140.1 0 l0_2 (l0_2.length : Int) 0 a0_0 a0_1 l0_2)) else (some (([] : List Int), 110))) = some (r1, r2) := H; have A2 := aM_ A20; clear A20; (by_cases c3 : t139 = true)
 · subst c3
   (have H1 : ((key_Bytes.f a0_1).bind fun bt140 => (super_Put.l0 k bt140.1 0 l0_2 (l0_2.length : Int) 0 a0_0 a0_1 l0_2)) = some (r1, r2) := by rw [if_pos rfl] at H; exact H); clear H; have H := H1; clear H1; replace H := Option.bind_eq_some_iff.mp H; obtain ⟨⟨t140, t141⟩, A40, H⟩ := H; replace H : (super_Put.l0 k t140 0 l0_2 (l0_2.length : Int) 0 a0_0 a0_1 l0_2) = some (r1, r2) := H; have A4 := aM_ A40; clear A40; have H' := aM_ H; clear H; (go_enter Tryd.func8, Tryd.ntmps8)
   go_wp2_with (first | ((with_reducible refine gate_dst (N := 1) rfl ?_); refine box_event ?hg (N := 1) ?hd (cs := #[.int .i64 a0_0, .string a0_1, .slice A0_2 l0_2.length c0_2]) (t := 25) ?hr ?_; (case hd => rfl); (case hg => rfl); (case hr => first | (go_simp; done) | (go_simp; rfl)); intro gb138 hg w5 hbox hb; have n0_ := aM_ (bT_ (bZ0_ HB.out) hb); have n1_ := aM_ (hbox); have n2_ := aM_ ((by rw [hg]; exact (bZ_ (bZ0_ HB.out)) : w.heap.size ≤ gb138)); have n3_ := aM_ ((by rw [hg]; exact (bZ_ (bZ0_ HB.out)) : w.heap.size ≤ gb138)); clear HB; have HB := n0_; have BK138 := n1_; have GW138 := n2_; have GE138 := n3_; clear n0_ n1_ n2_ n3_; clear hb hbox hg; have hcz6_0 := kc0_ BK138.out; have hcz6_1 := kc1_ BK138.out; have hcz6_2 := kc2_ BK138.out; have hfz6_0 := kF_ BK138.out 0; have hfz6_1 := kF_ BK138.out 1; have hfz6_2 := kF_ BK138.out 2) | ((with_reducible refine gate_callee (f := 19) rfl ?_); refine goesL_ (some 11) rfl rfl Tryd.func19 (by kernel_rfl) rfl #[.agg #[.int .i64 a0_0, .string a0_1, .slice A0_2 l0_2.length c0_2]] rfl (by (try simp only [mA_, mC_, mN_]); first | done | rfl | (simp only [lD_, lT_]; rfl)) ?_; (with_reducible refine (super_right.calls k a0_0 a0_1 _ _ l0_2 true _ ?side1 ?side2 A2.out).mono ?_); (case side1 => repeat (first | exact (Kd.C_below HR0_2.out HB.out) | (with_reducible refine Kd.C_alloc ?_ _) | (with_reducible refine Kd.C_drewN ?_ _) | (with_reducible refine Kd.C_drew ?_))); (case side2 => exact HC0_2.out); rintro e w7 ⟨rfl, hb⟩; refine ⟨_, rfl, ?_⟩; have n0_ := aM_ (kB_ (g := gb138) (o := .cells #[.int .i64 a0_0, .string a0_1, .slice A0_2 l0_2.length c0_2] 25 (0, 0)) (kZ_ BK138.out) hb); have n1_ := aM_ (bT_ (bZ1_ HB.out GE138.out) hb); clear BK138; clear HB; have BK138 := n0_; have HB := n1_; clear n0_ n1_; (try clear hb); (try clear hb2); (try clear hk); (try clear hi); have hcz8_0 := kc0_ BK138.out; have hcz8_1 := kc1_ BK138.out; have hcz8_2 := kc2_ BK138.out; have hfz8_0 := kF_ BK138.out 0; have hfz8_1 := kF_ BK138.out 1; have hfz8_2 := kF_ BK138.out 2) | ((with_reducible refine gate_callee (f := 20) rfl ?_); refine goesL_ (some 16) rfl rfl Tryd.func20 (by kernel_rfl) rfl #[.string a0_1] rfl (by (try simp only [mA_, mC_, mN_]); first | done | rfl | (simp only [lD_, lT_]; rfl)) ?_; (with_reducible refine (key_Bytes.calls a0_1 t140 t141 _ A4.out).mono ?_); rintro e w9 ⟨v142, rfl, ho0, hb⟩; refine ⟨_, rfl, ?_⟩; have n0_ := aM_ (Kd.R_lower ho0 (bZ_ (bZ1_ HB.out GE138.out))); have n1_ := aM_ (kB_ (g := gb138) (o := .cells #[.int .i64 a0_0, .string a0_1, .slice A0_2 l0_2.length c0_2] 25 (0, 0)) (kZ_ BK138.out) hb); have n2_ := aM_ (bT_ (bZ1_ HB.out GE138.out) hb); clear BK138; clear HB; have HO143 := n0_; have BK138 := n1_; have HB := n2_; clear n0_ n1_ n2_; (try clear hb); (try clear hb2); (try clear hk); (try clear hi); (try clear ho0); have hcz10_0 := kc0_ BK138.out; have hcz10_1 := kc1_ BK138.out; have hcz10_2 := kc2_ BK138.out; have hfz10_0 := kF_ BK138.out 0; have hfz10_1 := kF_ BK138.out 1; have hfz10_2 := kF_ BK138.out 2))
   (go_loopg [6, 22] k (fun kq v6 v22 w' => ∃ (x6_1 : Int) (x22_1 : Int), v6 = .int .u64 x6_1 ∧ v22 = .int .i64 x22_1 ∧ Aside0 (super_Put.l0 kq t140 x6_1 l0_2 (l0_2.length : Int) x22_1 a0_0 a0_1 l0_2 = some (r1, r2)) ∧ Aside0 (kq ≤ k) ∧ Aside0 (Kd.R (Kd.int .u8) 5 w' w.heap.size (fun _ => True) v142 t140) ∧ Aside0 (w'.heap[gb138]? = some (.cells #[.int .i64 a0_0, .string a0_1, (.slice A0_2 l0_2.length c0_2)] 25 (0, 0))) ∧ Aside0 (Below w.heap.size w w')))
   case atStart => exact ⟨(0), (0), (by first | rfl | (simp; done) | (simp [*]; done)), (by first | rfl | (simp; done) | (simp [*]; done)), H', ⟨Nat.le_refl _⟩, ⟨rZ_ HO143.out⟩, ⟨kZ_ BK138.out⟩, ⟨bZ1_ HB.out GE138.out⟩⟩
   case round =>
    clear H'; (try clear p2); (try clear c3); (try clear c4); (try clear c8); (try clear c9); (try clear hcz10_0); (try clear hcz10_1); (try clear hcz10_2); (try clear hcz6_0); (try clear hcz6_1); (try clear hcz6_2); (try clear hcz8_0); (try clear hcz8_1); (try clear hcz8_2); (try clear hfz10_0); (try clear hfz10_1); (try clear hfz10_2); (try clear hfz6_0); (try clear hfz6_1); (try clear hfz6_2); (try clear hfz8_0); (try clear hfz8_1); (try clear hfz8_2); obtain ⟨x6_1, x22_1, rfl, rfl, HA, HK1, HO_4, BK138, HB⟩ := hrel
    cases gk with
    | zero => exact absurd HA.out (by simp [super_Put.l0])
    | succ k1 =>
     have H := HA.out; clear HA; simp only [super_Put.l0] at H; (by_cases c11 : x22_1 < (l0_2.length : Int))
     · rw [if_pos c11] at H
       have c11b0 : decide (x22_1 < (l0_2.length : Int)) = true := dT_ c11; clear c11; (by_cases c12 : 0 ≤ x22_1)
       · rw [if_pos c12] at H
         have c12b0 : decide (0 ≤ x22_1) = true := dT_ c12; clear c12; (by_cases c13 : x22_1 < (l0_2.length : Int))
         · rw [if_pos c13] at H
           have c13b0 : decide (x22_1 < (l0_2.length : Int)) = true := dT_ c13; clear c13; (by_cases c14 : 0 ≤ (rd l0_2 x22_1))
           · rw [if_pos c14] at H
             have c14b0 := eq_true c14; have c14b1 : decide (0 ≤ (rd l0_2 x22_1)) = true := dT_ c14; clear c14; obtain ⟨ji15, hji15⟩ : ∃ j_ : Int, (shl .u64 1 (rd l0_2 x22_1)) = j_ := ⟨_, rfl⟩; (replace H : (super_Put.l0 k1 t140 (Go.bits .or .u64 x6_1 (ji15)) l0_2 (l0_2.length : Int) (wrap64 (x22_1 + 1)) a0_0 a0_1 l0_2) = some (r1, r2) := by first | (rw [hji15] at H; exact H) | (simp only [hji15] at H ⊢; exact H)); have hji15_ : (IntKind.u64.wrap (1 * 2 ^ min (rd l0_2 x22_1).toNat 64)) = ji15 := hji15; have hji15z : (rd l0_2 x22_1) ≤ 64 → (IntKind.u64.wrap (1 * 2 ^ (rd l0_2 x22_1).toNat)) = ji15 := shl_small hji15; (have hji15u : (IntKind.u64.wrap (2 ^ min (rd l0_2 x22_1).toNat 64)) = ji15 := by have h_ := hji15_; rw [Int.one_mul] at h_; exact h_); (have hji15v : (rd l0_2 x22_1) ≤ 64 → (IntKind.u64.wrap (2 ^ (rd l0_2 x22_1).toNat)) = ji15 := fun hle_ => by have h_ := hji15z hle_; rw [Int.one_mul] at h_; exact h_); have H' := aM_ H; clear H; have p144 : 0 ≤ (x22_1 : Int) := oD_ (by assumption); have q144 : x22_1 < (l0_2.length : Int) := oD_ (by assumption); obtain ⟨ad144, e144, hx144_0⟩ := Kd.at_int HR0_2.out x22_1 p144 q144; (cases e144); replace hx144_0 := (HB.out.cell (lC_ w _ hx144_0)).trans hx144_0; replace p144 := eq_true p144; replace q144 := eq_true q144; go_wp2; (go_roundg k1)
             case measure => have := HK1.out; omega
             case rel => exact ⟨(Go.bits .or .u64 x6_1 (ji15)), (wrap64 (x22_1 + 1)), (by first | rfl | (simp; done) | (simp only [← hji15] <;> (first | rfl | simp)) | (simp [*]; done)), (by first | rfl | (simp; done) | (simp [*]; done)), H', ⟨by have := HK1.out; omega⟩, ⟨rZ_ HO_4.out⟩, ⟨kZ_ BK138.out⟩, ⟨bZ1_ HB.out GE138.out⟩⟩
           (· rw [if_neg c14] at H; exact absurd H (by simp))
         (· rw [if_neg c13] at H; exact absurd H (by simp))
       (· rw [if_neg c12] at H; exact absurd H (by simp))
     · rw [if_neg c11] at H
       have c11b0 : decide (x22_1 < (l0_2.length : Int)) = false := decide_eq_false c11; clear c11; obtain ⟨y145, hy145⟩ : ∃ y_ : List Int, y_ = (([80, 76, 77, 80] : List Int)) := ⟨_, rfl⟩; (replace H : ((super_number.f k1 (IntKind.u64.wrap (a0_0))).bind fun t149 => ((super_number.f k1 x6_1).bind fun t152 => ((slices_Concat_byte_byte.f k1 [y145, t149, t140, t152]).bind fun t155 => ((crc_Bytes.f k1 t155).bind fun t158 => (if 0 ≤ (wrap64 (256 - (t158.length : Int))) then (if t158.length + (wrap64 (256 - (t158.length : Int)) : Int).toNat < 140737488355328 then (some ((t158 ++ List.replicate (wrap64 (256 - (t158.length : Int)) : Int).toNat 0), 0)) else (none)) else (none)))))) = some (r1, r2) := by first | (rw [hy145]; with_reducible exact H) | (have H2_ := (oB_ _ _).symm.trans H; rw [hy145]; with_reducible exact H2_) | (have H2_ := (oB_ _ _).symm.trans H; with_reducible exact H2_) | with_reducible exact H | (rw [hy145]; exact H) | exact H); have Ny145 := aM_ hy145; clear hy145; replace H := Option.bind_eq_some_iff.mp H; obtain ⟨t149, A160, H⟩ := H; replace H : ((super_number.f k1 x6_1).bind fun t152 => ((slices_Concat_byte_byte.f k1 [y145, t149, t140, t152]).bind fun t155 => ((crc_Bytes.f k1 t155).bind fun t158 => (if 0 ≤ (wrap64 (256 - (t158.length : Int))) then (if t158.length + (wrap64 (256 - (t158.length : Int)) : Int).toNat < 140737488355328 then (some ((t158 ++ List.replicate (wrap64 (256 - (t158.length : Int)) : Int).toNat 0), 0)) else (none)) else (none))))) = some (r1, r2) := H; have A16 := aM_ A160; clear A160; replace H := Option.bind_eq_some_iff.mp H; obtain ⟨t152, A170, H⟩ := H; replace H : ((slices_Concat_byte_byte.f k1 [y145, t149, t140, t152]).bind fun t155 => ((crc_Bytes.f k1 t155).bind fun t158 => (if 0 ≤ (wrap64 (256 - (t158.length : Int))) then (if t158.length + (wrap64 (256 - (t158.length : Int)) : Int).toNat < 140737488355328 then (some ((t158 ++ List.replicate (wrap64 (256 - (t158.length : Int)) : Int).toNat 0), 0)) else (none)) else (none)))) = some (r1, r2) := H; have A17 := aM_ A170; clear A170; replace H := Option.bind_eq_some_iff.mp H; obtain ⟨t155, A180, H⟩ := H; replace H : ((crc_Bytes.f k1 t155).bind fun t158 => (if 0 ≤ (wrap64 (256 - (t158.length : Int))) then (if t158.length + (wrap64 (256 - (t158.length : Int)) : Int).toNat < 140737488355328 then (some ((t158 ++ List.replicate (wrap64 (256 - (t158.length : Int)) : Int).toNat 0), 0)) else (none)) else (none))) = some (r1, r2) := H; have A18 := aM_ A180; clear A180; replace H := Option.bind_eq_some_iff.mp H; obtain ⟨t158, A190, H⟩ := H; replace H : (if 0 ≤ (wrap64 (256 - (t158.length : Int))) then (if t158.length + (wrap64 (256 - (t158.length : Int)) : Int).toNat < 140737488355328 then (some ((t158 ++ List.replicate (wrap64 (256 - (t158.length : Int)) : Int).toNat 0), 0)) else (none)) else (none)) = some (r1, r2) := H; have A19 := aM_ A190; clear A190; obtain ⟨ji20, hji20⟩ : ∃ j_ : Int, (wrap64 (256 - (t158.length : Int))) = j_ := ⟨_, rfl⟩
       (replace H : (if 0 ≤ (ji20) then (if t158.length + (ji20 : Int).toNat < 140737488355328 then (some ((t158 ++ List.replicate (ji20 : Int).toNat 0), 0)) else (none)) else (none)) = some (r1, r2) := by first | (rw [hji20] at H; exact H) | (simp only [hji20] at H ⊢; exact H)); (try rw [hji20] at A16); (try rw [hji20] at A17); (try rw [hji20] at A18); (try rw [hji20] at A19); have hji20w : (IntKind.i64.wrap (256 - (t158.length : Int))) = ji20 := (i64_w _).trans hji20; (by_cases c21 : 0 ≤ (ji20))
       · rw [if_pos c21] at H
         have c21b0 := eq_true c21; have c21b1 : decide (0 ≤ (ji20)) = true := dT_ c21; clear c21; (by_cases c22 : t158.length + (ji20 : Int).toNat < 140737488355328)
         · rw [if_pos c22] at H
           have LMc22 := aM_ c22; clear c22; obtain ⟨y161, hy161⟩ : ∃ y_ : List Int, y_ = (t158 ++ List.replicate (ji20 : Int).toNat 0) := ⟨_, rfl⟩; (replace H : (some (y161, 0)) = some (r1, r2) := by first | (rw [hy161]; with_reducible exact H) | (have H2_ := (oB_ _ _).symm.trans H; rw [hy161]; with_reducible exact H2_) | (have H2_ := (oB_ _ _).symm.trans H; with_reducible exact H2_) | with_reducible exact H | (rw [hy161]; exact H) | exact H); have Ny161 := aM_ hy161; clear hy161; simp only [oI_, pI_] at H; obtain ⟨rfl, rfl⟩ := H
           go_wp2_with (first | ((with_reducible refine gate_dst (N := 32) rfl ?_); refine Kd.R_const (w0 := _) _ 5 rfl (N := 32) rfl 26 _ rfl ([80, 76, 77, 80] : List Int) _ rfl Tryd.underlying26 Tryd.underlying5 rfl (by decide) (Below.refl _ _) (Nat.le_refl _) ?_; intro A24 c24 w23 hCc hLc hb hg_; clear hg_; rw [← Ny145.out] at hCc hLc ⊢; have n0_ := aM_ (Kd.R_below (rZ_ HO_4.out) hb); have n1_ := aM_ (kB_ (g := gb138) (o := .cells #[.int .i64 a0_0, .string a0_1, .slice A0_2 l0_2.length c0_2] 25 (0, 0)) (kZ_ BK138.out) hb); have n2_ := aM_ (bT_ (bZ1_ HB.out GE138.out) hb); clear HO_4; clear BK138; clear HB; have HO_4 := n0_; have BK138 := n1_; have HB := n2_; clear n0_ n1_ n2_; have HR148 := aM_ hCc; have HC148 := aM_ hLc; clear hCc hLc; clear hb; have hcz25_0 := kc0_ BK138.out; have hcz25_1 := kc1_ BK138.out; have hcz25_2 := kc2_ BK138.out; have hfz25_0 := kF_ BK138.out 0; have hfz25_1 := kF_ BK138.out 1; have hfz25_2 := kF_ BK138.out 2) | ((with_reducible refine gate_callee (f := 23) rfl ?_); refine goesL_ (some 36) rfl rfl Tryd.func23 (by kernel_rfl) rfl #[.int .u64 (IntKind.u64.wrap (a0_0))] rfl (by (try simp only [mA_, mC_, mN_]); first | done | rfl | (simp only [lD_, lT_]; rfl)) ?_; (with_reducible refine (super_number.calls k1 (IntKind.u64.wrap (a0_0)) t149 _ A16.out).mono ?_); rintro e w26 ⟨v150, rfl, ho0, hb⟩; refine ⟨_, rfl, ?_⟩; (try ((with_reducible first | (have nc_ := aM_ (Kd.C_below HR148.out hb)) | (have nc_ := aM_ (Kd.C_below (Kd.C_drewN HR148.out _) hb)) | (have nc_ := aM_ (Kd.C_below (Kd.C_drew HR148.out) hb)) | (have nc_ := aM_ (Kd.C_below (Kd.C_alloc HR148.out _) hb))); clear HR148; have HR148 := nc_; clear nc_)); have n0_ := aM_ (Kd.R_elder' (rZ_ HO_4.out) (Kd.R_base ho0) hb); have n1_ := aM_ (Kd.R_lower (Kd.R_new' ho0 (Kd.R_lt (rZ_ HO_4.out))) (bZ_ (bZ1_ HB.out GE138.out))); have n2_ := aM_ (kB_ (g := gb138) (o := .cells #[.int .i64 a0_0, .string a0_1, .slice A0_2 l0_2.length c0_2] 25 (0, 0)) (kZ_ BK138.out) hb); have n3_ := aM_ (bT_ (bZ1_ HB.out GE138.out) hb); clear HO_4; clear BK138; clear HB; have HO_4 := n0_; have HO151 := n1_; have BK138 := n2_; have HB := n3_; clear n0_ n1_ n2_ n3_; (try clear hb); (try clear hb2); (try clear hk); (try clear hi); (try clear ho0)) | ((with_reducible refine gate_callee (f := 23) rfl ?_); refine goesL_ (some 39) rfl rfl Tryd.func23 (by kernel_rfl) rfl #[.int .u64 x6_1] rfl (by (try simp only [mA_, mC_, mN_]); first | done | rfl | (simp only [lD_, lT_]; rfl)) ?_; (with_reducible refine (super_number.calls k1 x6_1 t152 _ A17.out).mono ?_); rintro e w27 ⟨v153, rfl, ho0, hb⟩; refine ⟨_, rfl, ?_⟩; (try ((with_reducible first | (have nc_ := aM_ (Kd.C_below HR148.out hb)) | (have nc_ := aM_ (Kd.C_below (Kd.C_drewN HR148.out _) hb)) | (have nc_ := aM_ (Kd.C_below (Kd.C_drew HR148.out) hb)) | (have nc_ := aM_ (Kd.C_below (Kd.C_alloc HR148.out _) hb))); clear HR148; have HR148 := nc_; clear nc_)); have n0_ := aM_ (Kd.R_elder' (rZ_ HO_4.out) (Kd.R_base ho0) hb); have n1_ := aM_ (Kd.R_elder' (rZ_ HO151.out) (Kd.R_base ho0) hb); have n2_ := aM_ (Kd.R_lower (Kd.R_new' (Kd.R_new' ho0 (Kd.R_lt (rZ_ HO_4.out))) (Kd.R_lt (rZ_ HO151.out))) (bZ_ (bZ1_ HB.out GE138.out))); have n3_ := aM_ (kB_ (g := gb138) (o := .cells #[.int .i64 a0_0, .string a0_1, .slice A0_2 l0_2.length c0_2] 25 (0, 0)) (kZ_ BK138.out) hb); have n4_ := aM_ (bT_ (bZ1_ HB.out GE138.out) hb); clear HO_4; clear HO151; clear BK138; clear HB; have HO_4 := n0_; have HO151 := n1_; have HO154 := n2_; have BK138 := n3_; have HB := n4_; clear n0_ n1_ n2_ n3_ n4_; (try clear hb); (try clear hb2); (try clear hk); (try clear hi); (try clear ho0); obtain ⟨Ao28, co28, eo28⟩ := Kd.R_slice HO151.out; subst eo28; obtain ⟨Ao29, co29, eo29⟩ := Kd.R_slice HO_4.out; subst eo29; obtain ⟨Ao30, co30, eo30⟩ := Kd.R_slice HO154.out; subst eo30) | ((with_reducible refine gate_callee (f := 22) rfl ?_); refine goesL_ (some 41) rfl rfl Tryd.func22 (by kernel_rfl) rfl #[.slice (some ⟨w27.heap.size, 0, none⟩) [y145, t149, t140, t152].length 4] rfl (by (try simp only [mA_, mC_, mN_]); first | done | rfl | (simp only [lD_, lT_]; rfl)) ?_; (refine (slices_Concat_byte_byte.calls k1 (some ⟨w27.heap.size, 0, none⟩) 4 [y145, t149, t140, t152] t155 _ ?side1 ?side2 A18.out).mono ?_); (case side1 => exact Kd.C_rows 26 5 [(A24, c24, y145), (Ao28, co28, t149), (Ao29, co29, t140), (Ao30, co30, t152)] (by intro v hv; exact rows4_ HC148.out HR148.out (rR_ HO151.out).2.1 (rR_ HO151.out).2.2 (rR_ HO_4.out).2.1 (rR_ HO_4.out).2.2 (rR_ HO154.out).2.1 (rR_ HO154.out).2.2 v hv) (by simp)); (case side2 => exact Nat.le_refl 4); rintro e w31 ⟨v156, rfl, ho0, hb⟩; refine ⟨_, rfl, ?_⟩; (try ((with_reducible first | (have nc_ := aM_ (Kd.C_below HR148.out hb)) | (have nc_ := aM_ (Kd.C_below (Kd.C_drewN HR148.out _) hb)) | (have nc_ := aM_ (Kd.C_below (Kd.C_drew HR148.out) hb)) | (have nc_ := aM_ (Kd.C_below (Kd.C_alloc HR148.out _) hb))); clear HR148; have HR148 := nc_; clear nc_)); have n0_ := aM_ (Kd.R_elder' (rZ_ HO_4.out) (Kd.R_base ho0) hb); have n1_ := aM_ (Kd.R_elder' (rZ_ HO151.out) (Kd.R_base ho0) hb); have n2_ := aM_ (Kd.R_elder' (rZ_ HO154.out) (Kd.R_base ho0) hb); have n3_ := aM_ (Kd.R_lower (Kd.R_new' (Kd.R_new' (Kd.R_new' ho0 (Kd.R_lt (rZ_ HO_4.out))) (Kd.R_lt (rZ_ HO151.out))) (Kd.R_lt (rZ_ HO154.out))) (bZ_ (bZ1_ HB.out GE138.out))); have n4_ := aM_ (kB_ (g := gb138) (o := .cells #[.int .i64 a0_0, .string a0_1, .slice A0_2 l0_2.length c0_2] 25 (0, 0)) (kZ_ BK138.out) hb); have n5_ := aM_ (bT_ (bZ1_ HB.out GE138.out) hb); clear HO_4; clear HO151; clear HO154; clear BK138; clear HB; have HO_4 := n0_; have HO151 := n1_; have HO154 := n2_; have HO157 := n3_; have BK138 := n4_; have HB := n5_; clear n0_ n1_ n2_ n3_ n4_ n5_; (try clear hb); (try clear hb2); (try clear hk); (try clear hi); (try clear ho0); obtain ⟨Ao32, co32, eo32⟩ := Kd.R_slice HO157.out; subst eo32) | ((with_reducible refine gate_callee (f := 21) rfl ?_); refine goesL_ (some 42) rfl rfl Tryd.func21 (by kernel_rfl) rfl #[.slice Ao32 t155.length co32] rfl (by (try simp only [mA_, mC_, mN_]); first | done | rfl | (simp only [lD_, lT_]; rfl)) ?_; (with_reducible refine (crc_Bytes.calls k1 _ _ t155 t158 _ ?side1 ?side2 A19.out).mono ?_); (case side1 => repeat (first | exact (rR_ HO157.out).2.2 | (with_reducible refine Kd.C_alloc ?_ _) | (with_reducible refine Kd.C_drewN ?_ _) | (with_reducible refine Kd.C_drew ?_))); (case side2 => exact (rR_ HO157.out).2.1); rintro e w33 ⟨v159, rfl, ho0, hb⟩; refine ⟨_, rfl, ?_⟩; (try ((with_reducible first | (have nc_ := aM_ (Kd.C_below HR148.out hb)) | (have nc_ := aM_ (Kd.C_below (Kd.C_drewN HR148.out _) hb)) | (have nc_ := aM_ (Kd.C_below (Kd.C_drew HR148.out) hb)) | (have nc_ := aM_ (Kd.C_below (Kd.C_alloc HR148.out _) hb))); clear HR148; have HR148 := nc_; clear nc_)); have n0_ := aM_ (Kd.R_elder' (rZ_ HO_4.out) (Kd.R_base ho0) hb); have n1_ := aM_ (Kd.R_elder' (rZ_ HO151.out) (Kd.R_base ho0) hb); have n2_ := aM_ (Kd.R_elder' (rZ_ HO154.out) (Kd.R_base ho0) hb); have n3_ := aM_ (Kd.R_elder' (rZ_ HO157.out) (Kd.R_base ho0) hb); have n4_ := aM_ (Kd.R_lower (Kd.R_new' (Kd.R_new' (Kd.R_new' (Kd.R_new' ho0 (Kd.R_lt (rZ_ HO_4.out))) (Kd.R_lt (rZ_ HO151.out))) (Kd.R_lt (rZ_ HO154.out))) (Kd.R_lt (rZ_ HO157.out))) (bZ_ (bZ1_ HB.out GE138.out))); have n5_ := aM_ (kB_ (g := gb138) (o := .cells #[.int .i64 a0_0, .string a0_1, .slice A0_2 l0_2.length c0_2] 25 (0, 0)) (kZ_ BK138.out) hb); have n6_ := aM_ (bT_ (bZ1_ HB.out GE138.out) hb); clear HO_4; clear HO151; clear HO154; clear HO157; clear BK138; clear HB; have HO_4 := n0_; have HO151 := n1_; have HO154 := n2_; have HO157 := n3_; have HO160 := n4_; have BK138 := n5_; have HB := n6_; clear n0_ n1_ n2_ n3_ n4_ n5_ n6_; (try clear hb); (try clear hb2); (try clear hk); (try clear hi); (try clear ho0); obtain ⟨Ao34, co34, eo34⟩ := Kd.R_slice HO160.out; subst eo34) | (at_builtin; refine Kd.R_append_zeros (Kd.int .u8) (w0 := w) w.heap.size rfl (.tmp 43) (.tmp 46) 26 3 5 (.int .u8 0) 1 rfl Tryd.underlying26 Tryd.underlying3 info5 rfl (by decide) (by omega) (.slice Ao34 t158.length co34) t158 0 (ji20 : Int) (fun k_ => some k_ ≠ (.slice Ao29 t140.length co29 : Value).ownBlock ∧ some k_ ≠ (.slice Ao28 t149.length co28 : Value).ownBlock ∧ some k_ ≠ (.slice Ao30 t152.length co30 : Value).ownBlock ∧ some k_ ≠ (.slice Ao32 t155.length co32 : Value).ownBlock) rfl rfl rfl ?aF ?aO (oD_ (by assumption)) ?aB ?aS ?aL ?_; (case aB => exact (bZ1_ HB.out GE138.out)); (case aF => exact (fun k_ hk => ⟨Kd.fresh' (Kd.R_lt (rZ_ HO_4.out)) k_ hk, Kd.fresh' (Kd.R_lt (rZ_ HO151.out)) k_ hk, Kd.fresh' (Kd.R_lt (rZ_ HO154.out)) k_ hk, Kd.fresh' (Kd.R_lt (rZ_ HO157.out)) k_ hk⟩)); (case aO => exact (by (with_reducible repeat (first | apply rA_ | apply rN_ | apply rD_)); exact Kd.R_mono HO160.out (fun _ hk => ⟨hk.1.1.1.2, ⟨hk.1.1.2, ⟨hk.1.2, hk.2⟩⟩⟩))); (case aS => exact (bZ_ (bZ1_ HB.out GE138.out))); (case aL => have := LMc22.out; omega); intro v162 w35 ho hb hg hat; rw [← Ny161.out] at ho; have n0_ := aM_ (Kd.R_after (ok := (fun k_ => some k_ ≠ (.slice Ao28 t149.length co28 : Value).ownBlock ∧ some k_ ≠ (.slice Ao30 t152.length co30 : Value).ownBlock ∧ some k_ ≠ (.slice Ao32 t155.length co32 : Value).ownBlock)) (by (with_reducible repeat (first | apply rA_ | apply rN_ | apply rD_)); exact Kd.R_mono HO_4.out (fun _ hk => ⟨⟨hk.1.1.1.2, ⟨hk.1.1.2, hk.1.2⟩⟩, hk.2⟩)) hg hat); have n1_ := aM_ (blk_grown (g := gb138) (o := .cells #[.int .i64 a0_0, .string a0_1, .slice A0_2 l0_2.length c0_2] 25 (0, 0)) (kZ_ BK138.out) hg (Kd.R_ne HO160.out BK138.out (by decide))); have n2_ := aM_ (Kd.R_after (ok := (fun k_ => some k_ ≠ (.slice Ao29 t140.length co29 : Value).ownBlock ∧ some k_ ≠ (.slice Ao30 t152.length co30 : Value).ownBlock ∧ some k_ ≠ (.slice Ao32 t155.length co32 : Value).ownBlock)) (by (with_reducible repeat (first | apply rA_ | apply rN_ | apply rD_)); exact Kd.R_mono HO151.out (fun _ hk => ⟨⟨hk.1.1.1.2, ⟨hk.1.1.2, hk.1.2⟩⟩, hk.2⟩)) hg hat); have n3_ := aM_ (Kd.R_after (ok := (fun k_ => some k_ ≠ (.slice Ao29 t140.length co29 : Value).ownBlock ∧ some k_ ≠ (.slice Ao28 t149.length co28 : Value).ownBlock ∧ some k_ ≠ (.slice Ao32 t155.length co32 : Value).ownBlock)) (by (with_reducible repeat (first | apply rA_ | apply rN_ | apply rD_)); exact Kd.R_mono HO154.out (fun _ hk => ⟨⟨hk.1.1.1.2, ⟨hk.1.1.2, hk.1.2⟩⟩, hk.2⟩)) hg hat); have n4_ := aM_ (Kd.R_after (ok := (fun k_ => some k_ ≠ (.slice Ao29 t140.length co29 : Value).ownBlock ∧ some k_ ≠ (.slice Ao28 t149.length co28 : Value).ownBlock ∧ some k_ ≠ (.slice Ao30 t152.length co30 : Value).ownBlock)) (by (with_reducible repeat (first | apply rA_ | apply rN_ | apply rD_)); exact Kd.R_mono HO157.out (fun _ hk => ⟨⟨hk.1.1.1.2, ⟨hk.1.1.2, hk.1.2⟩⟩, hk.2⟩)) hg hat); have n5_ := aM_ (hb); have n6_ := aM_ (ho); clear HO_4; clear BK138; clear HO151; clear HO154; clear HO157; clear HB; clear HO160; have HO_4 := n0_; have BK138 := n1_; have HO151 := n2_; have HO154 := n3_; have HO157 := n4_; have HB := n5_; have HO163 := n6_; clear n0_ n1_ n2_ n3_ n4_ n5_ n6_; clear ho hb hg hat))
           (go_ret2); (exact ⟨_, by first | rfl | (simp [errW_none, errW_some] <;> rfl) | (simp only [← hji20]; first | rfl | (simp [errW_none, errW_some] <;> rfl)) | (simp [*, errW_none, errW_some] <;> rfl), by (with_reducible repeat (first | apply rA_ | apply rN_ | apply rD_)); exact Kd.R_mono HO163.out (fun _ hk => trivial), by exact bZ1_ HB.out GE138.out⟩)
         (· rw [if_neg c22] at H; exact absurd H (by simp))
       (· rw [if_neg c21] at H; exact absurd H (by simp))
 · replace c3 := Bool.eq_false_iff.mpr c3
   subst c3; (have H1 : (some (([] : List Int), 110)) = some (r1, r2) := by rw [if_neg (show ¬ (false = true) by decide)] at H; exact H); clear H; have H := H1; clear H1; simp only [oI_, pI_] at H; obtain ⟨rfl, rfl⟩ := H; (go_enter Tryd.func8, Tryd.ntmps8)
   go_wp2_with (first | ((with_reducible refine gate_dst (N := 1) rfl ?_); refine box_event ?hg (N := 1) ?hd (cs := #[.int .i64 a0_0, .string a0_1, .slice A0_2 l0_2.length c0_2]) (t := 25) ?hr ?_; (case hd => rfl); (case hg => rfl); (case hr => first | (go_simp; done) | (go_simp; rfl)); intro gb138 hg w36 hbox hb; have n0_ := aM_ (bT_ (bZ0_ HB.out) hb); have n1_ := aM_ (hbox); have n2_ := aM_ ((by rw [hg]; exact (bZ_ (bZ0_ HB.out)) : w.heap.size ≤ gb138)); have n3_ := aM_ ((by rw [hg]; exact (bZ_ (bZ0_ HB.out)) : w.heap.size ≤ gb138)); clear HB; have HB := n0_; have BK138 := n1_; have GW138 := n2_; have GE138 := n3_; clear n0_ n1_ n2_ n3_; clear hb hbox hg; have hcz37_0 := kc0_ BK138.out; have hcz37_1 := kc1_ BK138.out; have hcz37_2 := kc2_ BK138.out; have hfz37_0 := kF_ BK138.out 0; have hfz37_1 := kF_ BK138.out 1; have hfz37_2 := kF_ BK138.out 2) | ((with_reducible refine gate_callee (f := 19) rfl ?_); refine goesL_ (some 11) rfl rfl Tryd.func19 (by kernel_rfl) rfl #[.agg #[.int .i64 a0_0, .string a0_1, .slice A0_2 l0_2.length c0_2]] rfl (by (try simp only [mA_, mC_, mN_]); first | done | rfl | (simp only [lD_, lT_]; rfl)) ?_; (with_reducible refine (super_right.calls k a0_0 a0_1 _ _ l0_2 false _ ?side1 ?side2 A2.out).mono ?_); (case side1 => repeat (first | exact (Kd.C_below HR0_2.out HB.out) | (with_reducible refine Kd.C_alloc ?_ _) | (with_reducible refine Kd.C_drewN ?_ _) | (with_reducible refine Kd.C_drew ?_))); (case side2 => exact HC0_2.out); rintro e w38 ⟨rfl, hb⟩; refine ⟨_, rfl, ?_⟩; have n0_ := aM_ (kB_ (g := gb138) (o := .cells #[.int .i64 a0_0, .string a0_1, .slice A0_2 l0_2.length c0_2] 25 (0, 0)) (kZ_ BK138.out) hb); have n1_ := aM_ (bT_ (bZ1_ HB.out GE138.out) hb); clear BK138; clear HB; have BK138 := n0_; have HB := n1_; clear n0_ n1_; (try clear hb); (try clear hb2); (try clear hk); (try clear hi)))
   (go_ret2); (exact ⟨_, by first | rfl | (simp [errW_none, errW_some] <;> rfl) | (simp [*, errW_none, errW_some] <;> rfl), by first | exact Kd.R_nil _ _ _ _ _ | exact Kd.N_nil _ _ _ _ _ | exact Kd.V_nil _ _ _ _ _ | exact Kd.Q_nil _ _ _ _ _ | exact Kd.S_nil _ _ _ _ _, by exact bZ1_ HB.out GE138.out⟩)
def super_read.l0 : Nat → List Int → Int → Int → Option (Int)
  | 0, _, _, _ => none
  | k + 1, x0, x3, x5 => if x5 < 8 then (if 0 ≤ x5 then (if x5 < (x0.length : Int) then (if 0 ≤ (wrap64 (8 * x5)) then (super_read.l0 k x0 (Go.bits .or .u64 x3 (shl .u64 (IntKind.u64.wrap (rd x0 x5)) (wrap64 (8 * x5)))) (wrap64 (x5 + 1))) else (none)) else (none)) else (none)) else (some x3)
def super_read.f (k : Nat) (l0 : List Int) : Option (Int) := super_read.l0 k l0 0 0
theorem super_read.mono_l : ∀ k, (∀ y0 y1 y2, LeO (super_read.l0 k y0 y1 y2) (super_read.l0 (k + 1) y0 y1 y2))
  | 0 => fun _ _ _ r h => by simp [super_read.l0] at h
  | k + 1 => by
    have ih0 := super_read.mono_l k
    · intro y0 y1 y2
      unfold super_read.l0
      repeat' first
      | (with_reducible exact ih0 _ _ _)
      | (with_reducible exact LeO.refl _)
      | (with_reducible exact LeO.none _)
      | (with_reducible refine LeO.ite ?_ ?_)
      | (with_reducible refine LeO.bind ?_ (fun _ => ?_))
      | exact ih0 _ _ _
      | exact LeO.none _
      | refine LeO.ite ?_ ?_
      | refine LeO.bind ?_ (fun _ => ?_)
theorem super_read.mono : ∀ a0 k, LeO (super_read.f k a0) (super_read.f (k + 1) a0) := by
 intro a0 k; have ih0 := super_read.mono_l k; unfold super_read.f
 repeat' first
     | (with_reducible exact ih0 _ _ _)
     | (with_reducible exact LeO.refl _)
     | (with_reducible exact LeO.none _)
     | (with_reducible refine LeO.ite ?_ ?_)
     | (with_reducible refine LeO.bind ?_ (fun _ => ?_))
     | exact ih0 _ _ _
     | exact LeO.none _
     | refine LeO.ite ?_ ?_
     | refine LeO.bind ?_ (fun _ => ?_)
theorem super_read.calls (k : Nat) (A0 : Option Addr) (c0 : Nat) (l0 : List Int) (r : Int) (w : World) (hr0 : Kd.C (Kd.int .u8) w A0 l0.length l0) (hc0 : l0.length ≤ c0) (h : super_read.f k l0 = some r) :
    Calls Tryd.prog 24 #[.slice A0 l0.length c0] w fun e w' => e = .returned (.int .u64 r) ∧ Drawn0 w w' := by
 have HR0 := aM_ hr0; have HC0 := aM_ hc0; clear hr0 hc0; have H : (super_read.l0 k l0 0 0) = some r := h; clear h; have H' := aM_ H; clear H; (go_enter Tryd.func24, Tryd.ntmps24); go_wp2; (go_loopg [3, 5] k (fun kq v3 v5 w' => ∃ (x3_1 : Int) (x5_1 : Int), v3 = .int .u64 x3_1 ∧ v5 = .int .i64 x5_1 ∧ Aside0 (super_read.l0 kq l0 x3_1 x5_1 = some r) ∧ Aside0 (kq ≤ k) ∧ Drawn0 w w'))
 case atStart => exact ⟨(0), (0), (by first | rfl | (simp; done) | (simp [*]; done)), (by first | rfl | (simp; done) | (simp [*]; done)), H', ⟨Nat.le_refl _⟩, by repeat (first | exact Drawn0.refl _ | apply Drawn0.step)⟩
 case round =>
  clear H'; obtain ⟨x3_1, x5_1, rfl, rfl, HA, HK1, ⟨m1, rfl⟩⟩ := hrel
  cases gk with
  | zero => exact absurd HA.out (by simp [super_read.l0])
  | succ k1 =>
   have H := HA.out; clear HA; simp only [super_read.l0] at H; (by_cases c2 : x5_1 < 8)
   · rw [if_pos c2] at H
     have c2b0 : decide (x5_1 < 8) = true := dT_ c2; clear c2; (by_cases c3 : 0 ≤ x5_1)
     · rw [if_pos c3] at H
       have c3b0 : decide (0 ≤ x5_1) = true := dT_ c3; clear c3; (by_cases c4 : x5_1 < (l0.length : Int))
       · rw [if_pos c4] at H
         have c4b0 : decide (x5_1 < (l0.length : Int)) = true := dT_ c4; clear c4; obtain ⟨ji5, hji5⟩ : ∃ j_ : Int, (wrap64 (8 * x5_1)) = j_ := ⟨_, rfl⟩; (replace H : (if 0 ≤ (ji5) then (super_read.l0 k1 l0 (Go.bits .or .u64 x3_1 (shl .u64 (IntKind.u64.wrap (rd l0 x5_1)) (ji5))) (wrap64 (x5_1 + 1))) else (none)) = some r := by first | (rw [hji5] at H; exact H) | (simp only [hji5] at H ⊢; exact H)); have hji5w : (IntKind.i64.wrap (8 * x5_1)) = ji5 := (i64_w _).trans hji5; (by_cases c6 : 0 ≤ (ji5))
         · rw [if_pos c6] at H
           have c6b0 := eq_true c6; have c6b1 : decide (0 ≤ (ji5)) = true := dT_ c6; clear c6; obtain ⟨ji7, hji7⟩ : ∃ j_ : Int, (shl .u64 (IntKind.u64.wrap (rd l0 x5_1)) (ji5)) = j_ := ⟨_, rfl⟩; (replace H : (super_read.l0 k1 l0 (Go.bits .or .u64 x3_1 (ji7)) (wrap64 (x5_1 + 1))) = some r := by first | (rw [hji7] at H; exact H) | (simp only [hji7] at H ⊢; exact H)); have hji7_ : (IntKind.u64.wrap ((IntKind.u64.wrap (rd l0 x5_1)) * 2 ^ min (ji5).toNat 64)) = ji7 := hji7; have hji7z : (ji5) ≤ 64 → (IntKind.u64.wrap ((IntKind.u64.wrap (rd l0 x5_1)) * 2 ^ (ji5).toNat)) = ji7 := shl_small hji7; have H' := aM_ H; clear H; have p123 : 0 ≤ (x5_1 : Int) := oD_ (by assumption); have q123 : x5_1 < (l0.length : Int) := oD_ (by assumption); obtain ⟨ad123, e123, hx123_0⟩ := Kd.at_int HR0.out x5_1 p123 q123; (cases e123); replace p123 := eq_true p123; replace q123 := eq_true q123; go_wp2; (go_roundg k1)
           case measure => have := HK1.out; omega
           case rel => exact ⟨(Go.bits .or .u64 x3_1 (ji7)), (wrap64 (x5_1 + 1)), (by first | rfl | (simp; done) | (simp only [← hji7] <;> (first | rfl | simp)) | (simp [*]; done)), (by first | rfl | (simp; done) | (simp [*]; done)), H', ⟨by have := HK1.out; omega⟩, by repeat (first | exact Drawn0.refl _ | apply Drawn0.step)⟩
         (· rw [if_neg c6] at H; exact absurd H (by simp))
       (· rw [if_neg c4] at H; exact absurd H (by simp))
     (· rw [if_neg c3] at H; exact absurd H (by simp))
   (· rw [if_neg c2] at H; have c2b0 : decide (x5_1 < 8) = false := decide_eq_false c2; clear c2; obtain rfl := oJ_ H; simp only [oI_, pI_] at H; obtain ⟨rfl⟩ := H; go_wp2; go_ret; exact ⟨by first | rfl | (simp; done) | (simp [*]; done), by repeat (first | exact Drawn0.refl _ | apply Drawn0.step)⟩)
end Go.Proofs.YtfffnogmkbbfkaaDoor.Fn
