import Derived.Test.YtbnkcbfhappgnaaDoorHx0
import Derived.Test.YtbnkcbfhappgnaaDoorHx1
import Derived.Test.YtbnkcbfhappgnaaDoorHx4
namespace Go.Proofs.YtbnkcbfhappgnaaDoor.Fn
set_option maxHeartbeats 8000000
set_option maxRecDepth 100000
open Go.RowKit Go.Proofs.YtbnkcbfhappgnaaDoorW.PrintWords Go.Proofs.YtbnkcbfhappgnaaDoorW.PrintLast Go.Proofs.YtbnkcbfhappgnaaDoorW.PrintMore
attribute [local go_sem] max2_int min2_int max_two min_two max_three min_three max_four min_four
set_option linter.unusedVariables false
set_option linter.unusedSimpArgs false
def crc_Bytes.l0 : Nat → List Int → Int → Int → Option (List Int)
  | 0, _, _, _ => none
  | k + 1, x3, x4, x14 => if x14 < 4 then (if 0 ≤ (wrap64 (8 * x14)) then (if x3.length < 140737488355328 then (crc_Bytes.l0 k (x3 ++ [(shr .u32 x4 (wrap64 (8 * x14))) % 256]) x4 (wrap64 (x14 + 1))) else (none)) else (none)) else (some x3)
def crc_Bytes.f (k : Nat) (l0 : List Int) : Option (List Int) := if 0 ≤ (wrap64 ((l0.length : Int) + 4)) then (if (wrap64 ((l0.length : Int) + 4) : Int).toNat ≤ 281474976710656 then ((some (([] : List Int) : List Int)).bind fun y178 => (if y178.length + l0.length < 140737488355328 then ((crc_Sum.f k l0).bind fun t184 => (crc_Bytes.l0 k (y178 ++ l0) t184 0)) else (none))) else (none)) else (none)
theorem crc_Bytes.mono_l : ∀ k, (∀ y0 y1 y2, LeO (crc_Bytes.l0 k y0 y1 y2) (crc_Bytes.l0 (k + 1) y0 y1 y2))
  | 0 => fun _ _ _ r h => by simp [crc_Bytes.l0] at h
  | k + 1 => by
    have ih0 := crc_Bytes.mono_l k
    · intro y0 y1 y2
      unfold crc_Bytes.l0
      repeat' first
      | (with_reducible exact ih0 _ _ _)
      | (with_reducible exact crc_Sum.mono _ _)
      | (with_reducible exact LeO.refl _)
      | (with_reducible exact LeO.none _)
      | (with_reducible refine LeO.ite ?_ ?_)
      | (with_reducible refine LeO.bind ?_ (fun _ => ?_))
      | exact ih0 _ _ _
      | exact LeO.none _
      | refine LeO.ite ?_ ?_
      | refine LeO.bind ?_ (fun _ => ?_)
theorem crc_Bytes.mono : ∀ a0 k, LeO (crc_Bytes.f k a0) (crc_Bytes.f (k + 1) a0) := by
 intro a0 k; have ih0 := crc_Bytes.mono_l k; unfold crc_Bytes.f
 repeat' first
     | (with_reducible exact ih0 _ _ _)
     | (with_reducible exact crc_Sum.mono _ _)
     | (with_reducible exact LeO.refl _)
     | (with_reducible exact LeO.none _)
     | (with_reducible refine LeO.ite ?_ ?_)
     | (with_reducible refine LeO.bind ?_ (fun _ => ?_))
     | exact ih0 _ _ _
     | exact LeO.none _
     | refine LeO.ite ?_ ?_
     | refine LeO.bind ?_ (fun _ => ?_)
theorem crc_Bytes.calls (k : Nat) (A0 : Option Addr) (c0 : Nat) (l0 : List Int) (r : List Int) (w : World) (hr0 : Kd.C (Kd.int .u8) w A0 l0.length l0) (hc0 : l0.length ≤ c0) (h : crc_Bytes.f k l0 = some r) :
    Calls Tryd.prog 21 #[.slice A0 l0.length c0] w fun e w' => ∃ v0_ : Value, e = .returned (v0_) ∧ Kd.R (Kd.int .u8) 5 w' w.heap.size (fun _ => True) v0_ r ∧ Below w.heap.size w w' := by
 have HR0 := aM_ hr0; have HC0 := aM_ hc0; clear hr0 hc0; have HB := aM_ (Below.refl w.heap.size w); have H : (if 0 ≤ (wrap64 ((l0.length : Int) + 4)) then (if (wrap64 ((l0.length : Int) + 4) : Int).toNat ≤ 281474976710656 then ((some (([] : List Int) : List Int)).bind fun y178 => (if y178.length + l0.length < 140737488355328 then ((crc_Sum.f k l0).bind fun t184 => (crc_Bytes.l0 k (y178 ++ l0) t184 0)) else (none))) else (none)) else (none)) = some r := h; clear h; obtain ⟨ji2, hji2⟩ : ∃ j_ : Int, (wrap64 ((l0.length : Int) + 4)) = j_ := ⟨_, rfl⟩; (replace H : (if 0 ≤ (ji2) then (if (ji2 : Int).toNat ≤ 281474976710656 then ((some (([] : List Int) : List Int)).bind fun y178 => (if y178.length + l0.length < 140737488355328 then ((crc_Sum.f k l0).bind fun t184 => (crc_Bytes.l0 k (y178 ++ l0) t184 0)) else (none))) else (none)) else (none)) = some r := by first | (rw [hji2] at H; exact H) | (simp only [hji2] at H ⊢; exact H)); have hji2w : (IntKind.i64.wrap ((l0.length : Int) + 4)) = ji2 := (i64_w _).trans hji2; (by_cases c3 : 0 ≤ (ji2))
 · rw [if_pos c3] at H
   have c3b0 := eq_true c3; have c3b1 : decide (0 ≤ (ji2)) = true := dT_ c3; clear c3; (by_cases c4 : (ji2 : Int).toNat ≤ 281474976710656)
   · rw [if_pos c4] at H
     have c4b0 := eq_true c4; have c4b1 : decide ((ji2 : Int).toNat ≤ 281474976710656) = true := dT_ c4; clear c4; obtain ⟨y178, hy178⟩ : ∃ y_ : List Int, y_ = (([] : List Int)) := ⟨_, rfl⟩; (replace H : (if y178.length + l0.length < 140737488355328 then ((crc_Sum.f k l0).bind fun t184 => (crc_Bytes.l0 k (y178 ++ l0) t184 0)) else (none)) = some r := yZ_ H hy178); have Ny178 := aM_ hy178; clear hy178; (by_cases c5 : y178.length + l0.length < 140737488355328)
     · rw [if_pos c5] at H
       have LMc5 := aM_ c5; clear c5; obtain ⟨y181, hy181⟩ : ∃ y_ : List Int, y_ = (y178 ++ l0) := ⟨_, rfl⟩; (replace H : ((crc_Sum.f k l0).bind fun t184 => (crc_Bytes.l0 k y181 t184 0)) = some r := yZ_ H hy181); have Ny181 := aM_ hy181; clear hy181; replace H := Option.bind_eq_some_iff.mp H; obtain ⟨t184, A60, H⟩ := H; replace H : (crc_Bytes.l0 k y181 t184 0) = some r := H; have A6 := aM_ A60; clear A60; have H' := aM_ H; clear H; (go_enter Tryd.func21, Tryd.ntmps21)
       go_wp2_with (first | ((with_reducible refine gate_dst (N := 9) rfl ?_); refine Kd.R_make0 (Kd.int .u8) _ 5 rfl (N := 9) rfl 22 _ _ rfl ji2 rfl rfl Tryd.underlying22 (.int .u8 0) 1 info5 rfl (by decide) (by omega) 0 (ok := fun _ => True) (okp := fun _ => True) rfl (fun _ hk => hk) trivial (oD_ (by assumption)) (Nat.le_trans (Nat.mul_le_mul_right _ (oD_ (by assumption) : ji2.toNat ≤ 281474976710656)) (by omega)) (Below.refl _ _) (Nat.le_refl _) ?_; intro v179 w7 ho8 hb hg_ hnew_; clear hg_ hnew_; (first | rw [← Ny178.out] at ho8 | (simp only [Int.reduceToNat] at ho8; rw [← Ny178.out] at ho8)); have n0_ := aM_ (Kd.R_lower ho8 (bZ_ (bZ0_ HB.out))); have n1_ := aM_ (bT_ (bZ0_ HB.out) hb); clear HB; have HO180 := n0_; have HB := n1_; clear n0_ n1_; clear hb ho8) | ((with_reducible refine gate_builtin (b := .append) (xs := #[.tmp 9, .tmp 10]) rfl ?_); at_builtin; refine Kd.R_append_rows (Kd.int .u8) (w0 := w) w.heap.size rfl (.tmp 9) (.tmp 10) 22 5 (.int .u8 0) 1 rfl Tryd.underlying22 info5 rfl (by decide) (by omega) v179 y178 l0 _ _ _ (fun _ => True) (fun _ => False) rfl rfl ?aO ?aR (fun _ _ h => h) (fun _ h => h.elim) ?aF ?aB ?aS ?aL ?_; (case aR => repeat (first | exact (Kd.C_below HR0.out HB.out) | (with_reducible refine Kd.C_alloc ?_ _) | (with_reducible refine Kd.C_drewN ?_ _) | (with_reducible refine Kd.C_drew ?_))); (case aB => exact (bZ0_ HB.out)); (case aF => exact (fun _ _ => trivial)); (case aO => exact (rZ_ HO180.out)); (case aS => exact (bZ_ (bZ0_ HB.out))); (case aL => have := LMc5.out; omega); intro v182 w9 ho hb hg hat; rw [← Ny181.out] at ho; have n0_ := aM_ (hb); have n1_ := aM_ (ho); clear HB; clear HO180; have HB := n0_; have HO183 := n1_; clear n0_ n1_; clear ho hb hg hat) | ((with_reducible refine gate_callee (f := 36) rfl ?_); refine goesL_ (some 13) rfl rfl Tryd.func36 (by kernel_rfl) rfl #[.slice A0 l0.length c0] rfl (by (try simp only [mA_, mC_, mN_]); first | done | rfl | (simp only [lD_, lT_]; rfl)) ?_; (with_reducible refine (crc_Sum.calls k _ _ l0 t184 _ ?side1 ?side2 A6.out).mono ?_); (case side1 => exact cZ_ (Kd.C_below HR0.out HB.out)); (case side2 => exact HC0.out); rintro e w' ⟨rfl, ⟨nd, rfl⟩⟩; refine ⟨_, rfl, ?_⟩))
       (go_loopg [3, 14] k (fun kq v3 v14 w' => ∃ (x3_1 : List Int) (x14_1 : Int), v14 = .int .i64 x14_1 ∧ Aside0 (crc_Bytes.l0 kq x3_1 t184 x14_1 = some r) ∧ Aside0 (kq ≤ k) ∧ Aside0 (Kd.R (Kd.int .u8) 5 w' w.heap.size (fun _ => True) v3 x3_1) ∧ Aside0 (Below w.heap.size w w')))
       case atStart => exact ⟨(y181), (0), (by first | rfl | (simp; done) | (simp [*]; done)), H', ⟨Nat.le_refl _⟩, ⟨rZ_ HO183.out⟩, ⟨bZ0_ HB.out⟩⟩
       case round =>
        clear H'; (try clear c2); (try clear p2); (try clear c3); (try clear c3b0); (try clear c3b1); (try clear c4); (try clear c4b0); (try clear c4b1); (try clear c5); (try clear p6); obtain ⟨x3_1, x14_1, rfl, HA, HK1, HO_3, HB⟩ := hrel
        cases gk with
        | zero => exact absurd HA.out (by simp [crc_Bytes.l0])
        | succ k1 =>
         have H := HA.out; clear HA; simp only [crc_Bytes.l0] at H; (by_cases c10 : x14_1 < 4)
         · rw [if_pos c10] at H
           have c10b0 : decide (x14_1 < 4) = true := dT_ c10; clear c10; obtain ⟨ji11, hji11⟩ : ∃ j_ : Int, (wrap64 (8 * x14_1)) = j_ := ⟨_, rfl⟩; (replace H : (if 0 ≤ (ji11) then (if x3_1.length < 140737488355328 then (crc_Bytes.l0 k1 (x3_1 ++ [(shr .u32 t184 (ji11)) % 256]) t184 (wrap64 (x14_1 + 1))) else (none)) else (none)) = some r := by first | (rw [hji11] at H; exact H) | (simp only [hji11] at H ⊢; exact H)); have hji11w : (IntKind.i64.wrap (8 * x14_1)) = ji11 := (i64_w _).trans hji11; (by_cases c12 : 0 ≤ (ji11))
           · rw [if_pos c12] at H
             have c12b0 := eq_true c12; have c12b1 : decide (0 ≤ (ji11)) = true := dT_ c12; clear c12; obtain ⟨ji13, hji13⟩ : ∃ j_ : Int, (shr .u32 t184 (ji11)) = j_ := ⟨_, rfl⟩; (replace H : (if x3_1.length < 140737488355328 then (crc_Bytes.l0 k1 (x3_1 ++ [(ji13) % 256]) t184 (wrap64 (x14_1 + 1))) else (none)) = some r := by first | (rw [hji13] at H; exact H) | (simp only [hji13] at H ⊢; exact H)); have hji13_ : (t184 / 2 ^ min (ji11).toNat 32) = ji13 := hji13; have hji13z : (ji11) ≤ 32 → (t184 / 2 ^ (ji11).toNat) = ji13 := shr_small hji13; (by_cases c14 : x3_1.length < 140737488355328)
             · rw [if_pos c14] at H
               have LMc14 := aM_ c14; clear c14; obtain ⟨y185, hy185⟩ : ∃ y_ : List Int, y_ = (x3_1 ++ [(ji13) % 256]) := ⟨_, rfl⟩; (replace H : (crc_Bytes.l0 k1 y185 t184 (wrap64 (x14_1 + 1))) = some r := yZ_ H hy185); have Ny185 := aM_ hy185; clear hy185; have H' := aM_ H; clear H; (go_wp2_with (first | ((with_reducible refine gate_builtin (b := .append) (xs := #[.tmp 17, .tmp 23]) rfl ?_); at_builtin; refine Kd.R_append (Kd.int .u8) (w0 := w) w.heap.size rfl (.tmp 17) (.tmp 23) 22 5 (.int .u8 0) 1 rfl Tryd.underlying22 info5 rfl (by decide) (by omega) u3 x3_1 ((ji13) % 256) [.int .u8 ((ji13) % 256)] (fun _ => True) (fun _ => False) rfl rfl ?aP (fun _ hk => hk.elim) ?aF ?aO ?aB ?aS ?aL ?_; (case aP => exact rfl); (case aB => exact (bZ0_ HB.out)); (case aF => exact (fun _ _ => trivial)); (case aO => exact (rZ_ HO_3.out)); (case aS => exact (bZ_ (bZ0_ HB.out))); (case aL => have := LMc14.out; omega); intro v186 w15 ho hb hg hat; rw [← Ny185.out] at ho; have n0_ := aM_ (hb); have n1_ := aM_ (ho); clear HB; clear HO_3; have HB := n0_; have HO187 := n1_; clear n0_ n1_; clear ho hb hg hat))); (go_roundg k1)
               case measure => have := HK1.out; omega
               case rel => exact ⟨(y185), (wrap64 (x14_1 + 1)), (by first | rfl | (simp; done) | (simp [*]; done)), H', ⟨by have := HK1.out; omega⟩, ⟨rZ_ HO187.out⟩, ⟨bZ0_ HB.out⟩⟩
             (· rw [if_neg c14] at H; exact absurd H (by simp))
           (· rw [if_neg c12] at H; exact absurd H (by simp))
         (· rw [if_neg c10] at H; have c10b0 : decide (x14_1 < 4) = false := decide_eq_false c10; clear c10; obtain rfl := oJ_ H; simp only [oI_, pI_] at H; obtain ⟨rfl⟩ := H; go_wp2; go_ret; (exact ⟨_, by first | rfl | (simp [errW_none, errW_some] <;> rfl) | (simp only [← hji2]; first | rfl | (simp [errW_none, errW_some] <;> rfl)) | (simp [*, errW_none, errW_some] <;> rfl), by exact rZ_ HO_3.out, by exact bZ0_ HB.out⟩))
     (· rw [if_neg c5] at H; exact absurd H (by simp))
   (· rw [if_neg c4] at H; exact absurd H (by simp))
 (· rw [if_neg c3] at H; exact absurd H (by simp))
def growNil (n : Int) : Option (List Int) := if 0 ≤ n then (if n ≤ 140737488355328 then some [] else none) else none
set_option maxHeartbeats 4000000 in
theorem slices_Grow_nil (n : Int) (r : List Int) (w : World) (h : growNil n = some r) :
    Calls Tryd.prog 37 #[.slice none 0 0, .int .i64 n] w fun e w' => ∃ v0_ : Value, e = .returned (v0_) ∧ Kd.R (Kd.int .u8) 5 w' w.heap.size (fun _ => True) v0_ r ∧ Below w.heap.size w w' := by
 unfold growNil at h; (by_cases h0 : 0 ≤ n); (· rw [if_pos h0] at h; (by_cases hn : n ≤ 140737488355328); (· rw [if_pos hn] at h; obtain rfl := oJ_ h; clear h; have HB := aM_ (Below.refl w.heap.size w); (by_cases hz : n = 0); (· subst hz; clear h0 hn; (go_enter Tryd.func37, Tryd.ntmps37); go_wp2; go_ret; exact ⟨_, rfl, Kd.R_nil _ _ _ _ _, HB.out⟩); (· (have hp : 0 < n := by omega); have d1 : decide (n < 0) = false := decide_eq_false (by omega); (have e1 : wrap64 n = n := by unfold wrap64; omega); have d2 : decide (0 < wrap64 n) = true := dT_ (by rw [e1]; exact hp); have HN := aM_ hn; have HP := aM_ hp; have E1 := aM_ e1; clear hn hz h0 hp e1; (go_enter Tryd.func37, Tryd.ntmps37); (go_wp2_with (at_builtin; refine Kd.R_append_zeros (Kd.int .u8) (w0 := w) w.heap.size rfl (.tmp 20) (.tmp 21) 22 3 5 (.int .u8 0) 1 rfl Tryd.underlying22 Tryd.underlying3 info5 rfl (by decide) (by omega) (.slice none 0 0) ([] : List Int) 0 (wrap64 n) (fun _ => True) rfl rfl rfl (fun _ _ => trivial) (Kd.R_nil _ _ _ _ _) (by rw [E1.out]; have := HP.out; omega) HB.out (Nat.le_refl _) (by rw [E1.out]; have := HN.out; simp; omega) ?_; intro v1 w1 ho hb hg hat; rw [E1.out] at ho; obtain ⟨g, cap, hv, _, _, _⟩ := Kd.R_form ho (by have := HP.out; simp; omega); subst hv; have HO := aM_ ho; have HB1 := aM_ hb; clear ho hb hg hat)); go_ret; exact ⟨_, rfl, Kd.R_take (m := 0) HO.out (Nat.zero_le _), HB1.out⟩)); (· rw [if_neg hn] at h; (cases h))); (· rw [if_neg h0] at h; (cases h))
mutual
def slices_Concat_byte_byte.l0 : Nat → List (List Int) → Int → List (List Int) → Int → Int → Option (List Int)
  | 0, _, _, _, _, _ => none
  | k + 1, x0, x3, x9, x10, x11 => if x11 < x10 then (if 0 ≤ x11 then (if x11 < (x9.length : Int) then (if (wrap64 (x3 + ((rd_L2 x9 x11).length : Int))) < 0 then (none) else (slices_Concat_byte_byte.l0 k x0 (wrap64 (x3 + ((rd_L2 x9 x11).length : Int))) x9 x10 (wrap64 (x11 + 1)))) else (none)) else (none)) else ((growNil x3).bind fun t208 => (slices_Concat_byte_byte.l1 k t208 x0 (x0.length : Int) 0))
def slices_Concat_byte_byte.l1 : Nat → List Int → List (List Int) → Int → Int → Option (List Int)
  | 0, _, _, _, _ => none
  | k + 1, x6, x25, x26, x27 => if x27 < x26 then (if 0 ≤ x27 then (if x27 < (x25.length : Int) then (if x6.length + (rd_L2 x25 x27).length < 140737488355328 then (slices_Concat_byte_byte.l1 k (x6 ++ (rd_L2 x25 x27)) x25 x26 (wrap64 (x27 + 1))) else (none)) else (none)) else (none)) else (some x6)
end
def slices_Concat_byte_byte.f (k : Nat) (l0 : List (List Int)) : Option (List Int) := slices_Concat_byte_byte.l0 k l0 0 l0 (l0.length : Int) 0
theorem slices_Concat_byte_byte.mono_l : ∀ k, (∀ y0 y1 y2 y3 y4, LeO (slices_Concat_byte_byte.l0 k y0 y1 y2 y3 y4) (slices_Concat_byte_byte.l0 (k + 1) y0 y1 y2 y3 y4)) ∧ (∀ y0 y1 y2 y3, LeO (slices_Concat_byte_byte.l1 k y0 y1 y2 y3) (slices_Concat_byte_byte.l1 (k + 1) y0 y1 y2 y3))
  | 0 => ⟨fun _ _ _ _ _ r h => by simp [slices_Concat_byte_byte.l0] at h, fun _ _ _ _ r h => by simp [slices_Concat_byte_byte.l1] at h⟩
  | k + 1 => by
    obtain ⟨ih0, ih1⟩ := slices_Concat_byte_byte.mono_l k
    refine ⟨?_, ?_⟩
    · intro y0 y1 y2 y3 y4
      unfold slices_Concat_byte_byte.l0
      repeat' first
      | (with_reducible exact ih0 _ _ _ _ _)
      | (with_reducible exact ih1 _ _ _ _)
      | (with_reducible exact LeO.refl _)
      | (with_reducible exact LeO.none _)
      | (with_reducible refine LeO.ite ?_ ?_)
      | (with_reducible refine LeO.bind ?_ (fun _ => ?_))
      | exact ih0 _ _ _ _ _
      | exact ih1 _ _ _ _
      | exact LeO.none _
      | refine LeO.ite ?_ ?_
      | refine LeO.bind ?_ (fun _ => ?_)
    · intro y0 y1 y2 y3
      unfold slices_Concat_byte_byte.l1
      repeat' first
      | (with_reducible exact ih0 _ _ _ _ _)
      | (with_reducible exact ih1 _ _ _ _)
      | (with_reducible exact LeO.refl _)
      | (with_reducible exact LeO.none _)
      | (with_reducible refine LeO.ite ?_ ?_)
      | (with_reducible refine LeO.bind ?_ (fun _ => ?_))
      | exact ih0 _ _ _ _ _
      | exact ih1 _ _ _ _
      | exact LeO.none _
      | refine LeO.ite ?_ ?_
      | refine LeO.bind ?_ (fun _ => ?_)
theorem slices_Concat_byte_byte.mono : ∀ a0 k, LeO (slices_Concat_byte_byte.f k a0) (slices_Concat_byte_byte.f (k + 1) a0) := by
 intro a0 k; obtain ⟨ih0, ih1⟩ := slices_Concat_byte_byte.mono_l k; unfold slices_Concat_byte_byte.f
 repeat' first
     | (with_reducible exact ih0 _ _ _ _ _)
     | (with_reducible exact ih1 _ _ _ _)
     | (with_reducible exact LeO.refl _)
     | (with_reducible exact LeO.none _)
     | (with_reducible refine LeO.ite ?_ ?_)
     | (with_reducible refine LeO.bind ?_ (fun _ => ?_))
     | exact ih0 _ _ _ _ _
     | exact ih1 _ _ _ _
     | exact LeO.none _
     | refine LeO.ite ?_ ?_
     | refine LeO.bind ?_ (fun _ => ?_)
theorem slices_Concat_byte_byte.calls (k : Nat) (A0 : Option Addr) (c0 : Nat) (l0 : List (List Int)) (r : List Int) (w : World) (hr0 : Kd.C (Kd.slice 5 (Kd.int .u8)) w A0 l0.length l0) (hc0 : l0.length ≤ c0) (h : slices_Concat_byte_byte.f k l0 = some r) :
    Calls Tryd.prog 22 #[.slice A0 l0.length c0] w fun e w' => ∃ v0_ : Value, e = .returned (v0_) ∧ Kd.R (Kd.int .u8) 5 w' w.heap.size (fun _ => True) v0_ r ∧ Below w.heap.size w w' := by
 have HR0 := aM_ hr0; have HC0 := aM_ hc0; clear hr0 hc0; have HB := aM_ (Below.refl w.heap.size w); have H : (slices_Concat_byte_byte.l0 k l0 0 l0 (l0.length : Int) 0) = some r := h; clear h; have H' := aM_ H; clear H; (go_enter Tryd.func22, Tryd.ntmps22); go_wp2; (go_loopg [3, 11] k (fun kq v3 v11 w' => ∃ (x3_1 : Int) (x11_1 : Int), v3 = .int .i64 x3_1 ∧ v11 = .int .i64 x11_1 ∧ Aside0 (slices_Concat_byte_byte.l0 kq l0 x3_1 l0 (l0.length : Int) x11_1 = some r) ∧ Aside0 (kq ≤ k) ∧ Aside0 (Below w.heap.size w w')))
 case atStart => exact ⟨(0), (0), (by first | rfl | (simp; done) | (simp [*]; done)), (by first | rfl | (simp; done) | (simp [*]; done)), H', ⟨Nat.le_refl _⟩, ⟨bZ0_ HB.out⟩⟩
 case round =>
  clear H'; obtain ⟨x3_1, x11_1, rfl, rfl, HA, HK1, HB⟩ := hrel
  cases gk with
  | zero => exact absurd HA.out (by simp [slices_Concat_byte_byte.l0])
  | succ k1 =>
   have H := HA.out; clear HA; simp only [slices_Concat_byte_byte.l0] at H; (by_cases c2 : x11_1 < (l0.length : Int))
   · rw [if_pos c2] at H
     have c2b0 : decide (x11_1 < (l0.length : Int)) = true := dT_ c2; clear c2; (by_cases c3 : 0 ≤ x11_1)
     · rw [if_pos c3] at H
       have c3b0 : decide (0 ≤ x11_1) = true := dT_ c3; clear c3; (by_cases c4 : x11_1 < (l0.length : Int))
       · rw [if_pos c4] at H
         have c4b0 : decide (x11_1 < (l0.length : Int)) = true := dT_ c4; clear c4; (by_cases c5 : (wrap64 (x3_1 + ((rd_L2 l0 x11_1).length : Int))) < 0); (· rw [if_pos c5] at H; exact absurd H (by simp))
         · rw [if_neg c5] at H
           have c5b0 : decide ((wrap64 (x3_1 + ((rd_L2 l0 x11_1).length : Int))) < 0) = false := decide_eq_false c5; clear c5; have H' := aM_ H; clear H; have p207 : 0 ≤ (x11_1 : Int) := oD_ (by assumption); have q207 : x11_1 < (l0.length : Int) := oD_ (by assumption); obtain ⟨ad207, A207_0, c207_0, e207, hx207_0, hl207_0, hi207_0⟩ := at_L2 HR0.out x11_1 p207 q207; (cases e207); replace hx207_0 := (HB.out.cell (lC_ w _ hx207_0)).trans hx207_0; have HR207_0 := aM_ hi207_0; have HC207_0 := aM_ hl207_0; clear hi207_0 hl207_0; replace p207 := eq_true p207; replace q207 := eq_true q207; go_wp2; (go_roundg k1)
           case measure => have := HK1.out; omega
           case rel => exact ⟨(wrap64 (x3_1 + ((rd_L2 l0 x11_1).length : Int))), (wrap64 (x11_1 + 1)), (by first | rfl | (simp; done) | (simp [*]; done)), (by first | rfl | (simp; done) | (simp [*]; done)), H', ⟨by have := HK1.out; omega⟩, ⟨bZ0_ HB.out⟩⟩
       (· rw [if_neg c4] at H; exact absurd H (by simp))
     (· rw [if_neg c3] at H; exact absurd H (by simp))
   · rw [if_neg c2] at H
     have c2b0 : decide (x11_1 < (l0.length : Int)) = false := decide_eq_false c2; clear c2; replace H := Option.bind_eq_some_iff.mp H; obtain ⟨t208, A60, H⟩ := H; replace H : (slices_Concat_byte_byte.l1 k1 t208 l0 (l0.length : Int) 0) = some r := H; have A6 := aM_ A60; clear A60; have H' := aM_ H; clear H; (go_wp2_with (first | ((with_reducible refine gate_callee (f := 37) rfl ?_); refine goesL_ (some 24) rfl rfl Tryd.func37 (by kernel_rfl) rfl #[.slice none 0 0, .int .i64 x3_1] rfl (by (try simp only [mA_, mC_, mN_]); first | done | rfl | (simp only [lD_, lT_]; rfl)) ?_; (refine (slices_Grow_nil x3_1 t208 _ A6.out).mono ?_); rintro e w7 ⟨v209, rfl, ho0, hb⟩; refine ⟨_, rfl, ?_⟩; have n0_ := aM_ (Kd.R_lower ho0 (bZ_ (bZ0_ HB.out))); have n1_ := aM_ (bT_ (bZ0_ HB.out) hb); clear HB; have HO210 := n0_; have HB := n1_; clear n0_ n1_; (try clear hb); (try clear hb2); (try clear hk); (try clear hi); (try clear ho0)))); (go_loopg [6, 27] k1 (fun kq v6 v27 w' => ∃ (x6_2 : List Int) (x27_2 : Int), v27 = .int .i64 x27_2 ∧ Aside0 (slices_Concat_byte_byte.l1 kq x6_2 l0 (l0.length : Int) x27_2 = some r) ∧ Aside0 (kq ≤ k1) ∧ Aside0 (Kd.R (Kd.int .u8) 5 w' w.heap.size (fun _ => True) v6 x6_2) ∧ Aside0 (Below w.heap.size w w')))
     case atStart => exact ⟨(t208), (0), (by first | rfl | (simp; done) | (simp [*]; done)), H', ⟨Nat.le_refl _⟩, ⟨rZ_ HO210.out⟩, ⟨bZ0_ HB.out⟩⟩
     case round =>
      clear H'; (try clear c1); (try clear c2); (try clear c2b0); (try clear p2); (try clear q2); (try clear hx2); (try clear c3); (try clear c3b0); (try clear c4); (try clear c4b0); (try clear c5); (try clear c5b0); (try clear p6); (try clear c7); (try clear hx207_0); (try clear p207); (try clear q207); obtain ⟨x6_2, x27_2, rfl, HA, HK2, HO_6, HB⟩ := hrel
      cases gk with
      | zero => exact absurd HA.out (by simp [slices_Concat_byte_byte.l1])
      | succ k2 =>
       have H := HA.out; clear HA; simp only [slices_Concat_byte_byte.l1] at H; (by_cases c8 : x27_2 < (l0.length : Int))
       · rw [if_pos c8] at H
         have c8b0 : decide (x27_2 < (l0.length : Int)) = true := dT_ c8; clear c8; (by_cases c9 : 0 ≤ x27_2)
         · rw [if_pos c9] at H
           have c9b0 : decide (0 ≤ x27_2) = true := dT_ c9; clear c9; (by_cases c10 : x27_2 < (l0.length : Int))
           · rw [if_pos c10] at H
             have c10b0 : decide (x27_2 < (l0.length : Int)) = true := dT_ c10; clear c10; (by_cases c11 : x6_2.length + (rd_L2 l0 x27_2).length < 140737488355328)
             · rw [if_pos c11] at H
               have LMc11 := aM_ c11; clear c11; obtain ⟨y212, hy212⟩ : ∃ y_ : List Int, y_ = (x6_2 ++ (rd_L2 l0 x27_2)) := ⟨_, rfl⟩; (replace H : (slices_Concat_byte_byte.l1 k2 y212 l0 (l0.length : Int) (wrap64 (x27_2 + 1))) = some r := yZ_ H hy212); have Ny212 := aM_ hy212; clear hy212; have H' := aM_ H; clear H; have p211 : 0 ≤ (x27_2 : Int) := oD_ (by assumption); have q211 : x27_2 < (l0.length : Int) := oD_ (by assumption); obtain ⟨ad211, A211_0, c211_0, e211, hx211_0, hl211_0, hi211_0⟩ := at_L2 HR0.out x27_2 p211 q211; (cases e211); replace hx211_0 := (HB.out.cell (lC_ w _ hx211_0)).trans hx211_0; have HR211_0 := aM_ hi211_0; have HC211_0 := aM_ hl211_0; clear hi211_0 hl211_0; replace p211 := eq_true p211; replace q211 := eq_true q211
               go_wp2_with (first | ((with_reducible refine gate_builtin (b := .append) (xs := #[.tmp 31, .tmp 32]) rfl ?_); at_builtin; refine Kd.R_append_rows (Kd.int .u8) (w0 := w) w.heap.size rfl (.tmp 31) (.tmp 32) 22 5 (.int .u8 0) 1 rfl Tryd.underlying22 info5 rfl (by decide) (by omega) u6 x6_2 (rd_L2 l0 x27_2) _ _ _ (fun _ => True) (fun _ => False) rfl rfl ?aO ?aR (fun _ _ h => h) (fun _ h => h.elim) ?aF ?aB ?aS ?aL ?_; (case aR => repeat (first | exact (Kd.C_below HR211_0.out HB.out) | (with_reducible refine Kd.C_alloc ?_ _) | (with_reducible refine Kd.C_drewN ?_ _) | (with_reducible refine Kd.C_drew ?_))); (case aB => exact (bZ0_ HB.out)); (case aF => exact (fun _ _ => trivial)); (case aO => exact (rZ_ HO_6.out)); (case aS => exact (bZ_ (bZ0_ HB.out))); (case aL => have := LMc11.out; omega); intro v213 w12 ho hb hg hat; rw [← Ny212.out] at ho; have n0_ := aM_ (hb); have n1_ := aM_ (ho); clear HB; clear HO_6; have HB := n0_; have HO214 := n1_; clear n0_ n1_; clear ho hb hg hat))
               (go_roundg k2)
               case measure => have := HK1.out; have := HK2.out; omega
               case rel => exact ⟨(y212), (wrap64 (x27_2 + 1)), (by first | rfl | (simp; done) | (simp [*]; done)), H', ⟨by have := HK1.out; have := HK2.out; omega⟩, ⟨rZ_ HO214.out⟩, ⟨bZ0_ HB.out⟩⟩
             (· rw [if_neg c11] at H; exact absurd H (by simp))
           (· rw [if_neg c10] at H; exact absurd H (by simp))
         (· rw [if_neg c9] at H; exact absurd H (by simp))
       (· rw [if_neg c8] at H; have c8b0 : decide (x27_2 < (l0.length : Int)) = false := decide_eq_false c8; clear c8; obtain rfl := oJ_ H; simp only [oI_, pI_] at H; obtain ⟨rfl⟩ := H; go_wp2; go_ret; (exact ⟨_, by first | rfl | (simp [errW_none, errW_some] <;> rfl) | (simp [*, errW_none, errW_some] <;> rfl), by exact rZ_ HO_6.out, by exact bZ0_ HB.out⟩))
def leb_Put.l0 : Nat → Int → List Int → Int → Int → Option (List Int)
  | 0, _, _, _, _ => none
  | k + 1, x0, x3, x9, x10 => if x10 < x9 then (if 0 ≤ (wrap64 (7 * x10)) then (if 0 ≤ x10 then (if x10 < (x3.length : Int) then (leb_Put.l0 k x0 (x3.set (x10 : Int).toNat (Go.bits .or .u8 ((shr .u64 x0 (wrap64 (7 * x10))) % 256) 128)) x9 (wrap64 (x10 + 1))) else (none)) else (none)) else (none)) else (if 0 ≤ (wrap64 ((x3.length : Int) - 1)) then (if (wrap64 ((x3.length : Int) - 1)) < (x3.length : Int) then (some (x3.set ((wrap64 ((x3.length : Int) - 1)) : Int).toNat (Go.bits .andNot .u8 (rd x3 (wrap64 ((x3.length : Int) - 1))) 128))) else (none)) else (none))
def leb_Put.f (k : Nat) (a0 : Int) : Option (List Int) := (leb_Size.f a0).bind fun t188 => (if 0 ≤ t188 then (if (t188 : Int).toNat ≤ 281474976710656 then ((some (List.replicate (t188 : Int).toNat 0 : List Int)).bind fun y189 => (leb_Put.l0 k a0 y189 (y189.length : Int) 0)) else (none)) else (none))
theorem leb_Put.mono_l : ∀ k, (∀ y0 y1 y2 y3, LeO (leb_Put.l0 k y0 y1 y2 y3) (leb_Put.l0 (k + 1) y0 y1 y2 y3))
  | 0 => fun _ _ _ _ r h => by simp [leb_Put.l0] at h
  | k + 1 => by
    have ih0 := leb_Put.mono_l k
    · intro y0 y1 y2 y3
      unfold leb_Put.l0
      repeat' first
      | (with_reducible exact ih0 _ _ _ _)
      | (with_reducible exact LeO.refl _)
      | (with_reducible exact LeO.none _)
      | (with_reducible refine LeO.ite ?_ ?_)
      | (with_reducible refine LeO.bind ?_ (fun _ => ?_))
      | exact ih0 _ _ _ _
      | exact LeO.none _
      | refine LeO.ite ?_ ?_
      | refine LeO.bind ?_ (fun _ => ?_)
theorem leb_Put.mono : ∀ a0 k, LeO (leb_Put.f k a0) (leb_Put.f (k + 1) a0) := by
 intro a0 k; have ih0 := leb_Put.mono_l k; unfold leb_Put.f
 repeat' first
     | (with_reducible exact ih0 _ _ _ _)
     | (with_reducible exact LeO.refl _)
     | (with_reducible exact LeO.none _)
     | (with_reducible refine LeO.ite ?_ ?_)
     | (with_reducible refine LeO.bind ?_ (fun _ => ?_))
     | exact ih0 _ _ _ _
     | exact LeO.none _
     | refine LeO.ite ?_ ?_
     | refine LeO.bind ?_ (fun _ => ?_)
theorem leb_Put.calls (k : Nat) (a0 : Int) (r : List Int) (w : World) (h : leb_Put.f k a0 = some r) :
    Calls Tryd.prog 38 #[.int .u64 a0] w fun e w' => ∃ v0_ : Value, e = .returned (v0_) ∧ Kd.R (Kd.int .u8) 5 w' w.heap.size (fun _ => True) v0_ r ∧ Below w.heap.size w w' := by
 have HB := aM_ (Below.refl w.heap.size w); have H : ((leb_Size.f a0).bind fun t188 => (if 0 ≤ t188 then (if (t188 : Int).toNat ≤ 281474976710656 then ((some (List.replicate (t188 : Int).toNat 0 : List Int)).bind fun y189 => (leb_Put.l0 k a0 y189 (y189.length : Int) 0)) else (none)) else (none))) = some r := h; clear h; replace H := Option.bind_eq_some_iff.mp H; obtain ⟨t188, A20, H⟩ := H; replace H : (if 0 ≤ t188 then (if (t188 : Int).toNat ≤ 281474976710656 then ((some (List.replicate (t188 : Int).toNat 0 : List Int)).bind fun y189 => (leb_Put.l0 k a0 y189 (y189.length : Int) 0)) else (none)) else (none)) = some r := H; have A2 := aM_ A20; clear A20; (by_cases c3 : 0 ≤ t188)
 · rw [if_pos c3] at H
   have c3b0 := eq_true c3; have c3b1 : decide (0 ≤ t188) = true := dT_ c3; clear c3; (by_cases c4 : (t188 : Int).toNat ≤ 281474976710656)
   · rw [if_pos c4] at H
     have c4b0 := eq_true c4; have c4b1 : decide ((t188 : Int).toNat ≤ 281474976710656) = true := dT_ c4; clear c4; obtain ⟨y189, hy189⟩ : ∃ y_ : List Int, y_ = (List.replicate (t188 : Int).toNat 0) := ⟨_, rfl⟩; (replace H : (leb_Put.l0 k a0 y189 (y189.length : Int) 0) = some r := yZ_ H hy189); have Ny189 := aM_ hy189; clear hy189; have H' := aM_ H; clear H; (go_enter Tryd.func38, Tryd.ntmps38)
     go_wp2_with (first | ((with_reducible refine gate_callee (f := 24) rfl ?_); refine goesL_ (some 6) rfl rfl Tryd.func24 (by kernel_rfl) rfl #[.int .u64 a0] rfl (by (try simp only [mA_, mC_, mN_]); first | done | rfl | (simp only [lD_, lT_]; rfl)) ?_; (with_reducible refine (leb_Size.calls a0 t188 _ A2.out).mono ?_); rintro e w5 ⟨rfl, hb⟩; refine ⟨_, rfl, ?_⟩; have n0_ := aM_ (bT_ (bZ0_ HB.out) hb); clear HB; have HB := n0_; clear n0_; (try clear hb); (try clear hb2); (try clear hk); (try clear hi)) | ((with_reducible refine gate_dst (N := 7) rfl ?_); refine Kd.R_make (Kd.int .u8) _ 5 rfl (N := 7) rfl 22 _ _ rfl t188 rfl rfl Tryd.underlying22 (.int .u8 0) 1 info5 rfl (by decide) (by omega) 0 (ok := fun _ => True) (okp := fun _ => True) rfl (fun _ hk => hk) trivial (oD_ (by assumption)) (Nat.le_trans (Nat.mul_le_mul_right _ (oD_ (by assumption) : t188.toNat ≤ 281474976710656)) (by omega)) (Below.refl _ _) (Nat.le_refl _) ?_; intro v190 w6 ho7 hb hg_ hnew_; clear hg_ hnew_; (first | rw [← Ny189.out] at ho7 | (simp only [Int.reduceToNat] at ho7; rw [← Ny189.out] at ho7)); have n0_ := aM_ (Kd.R_lower ho7 (bZ_ (bZ0_ HB.out))); have n1_ := aM_ (bT_ (bZ0_ HB.out) hb); clear HB; have HO191 := n0_; have HB := n1_; clear n0_ n1_; clear hb ho7; obtain ⟨Ao8, co8, eo8⟩ := Kd.R_slice HO191.out; subst eo8))
     (go_loopg [10] k (fun kq v10 w' => ∃ (x3_1 : List Int) (x10_1 : Int), v10 = .int .i64 x10_1 ∧ Aside0 (leb_Put.l0 kq a0 x3_1 (y189.length : Int) x10_1 = some r) ∧ Aside0 (kq ≤ k) ∧ Aside0 (Kd.R (Kd.int .u8) 5 w' w.heap.size (fun _ => True) (.slice Ao8 y189.length co8) x3_1) ∧ Aside0 (Below w.heap.size w w')))
     case atStart => exact ⟨(y189), (0), (by first | rfl | (simp; done) | (simp [*]; done)), H', ⟨Nat.le_refl _⟩, ⟨rZ_ HO191.out⟩, ⟨bZ0_ HB.out⟩⟩
     case round =>
      clear H'; (try clear c2); (try clear p2); (try clear c3); (try clear c3b0); (try clear c3b1); (try clear c4); (try clear c4b0); (try clear c4b1); obtain ⟨x3_1, x10_1, rfl, HA, HK1, HO_3, HB⟩ := hrel; have hl3_1 := (rR_ HO_3.out).1; rw [hl3_1] at HO_3; (try simp only [hl3_1])
      cases gk with
      | zero => exact absurd HA.out (by simp [leb_Put.l0])
      | succ k1 =>
       have H := HA.out; clear HA; simp only [leb_Put.l0] at H; (by_cases c9 : x10_1 < (y189.length : Int))
       · rw [if_pos c9] at H
         have c9b0 : decide (x10_1 < (y189.length : Int)) = true := dT_ c9; (try (have c9b0n := c9b0; simp only [hl3_1] at c9b0n)); clear c9; obtain ⟨ji10, hji10⟩ : ∃ j_ : Int, (wrap64 (7 * x10_1)) = j_ := ⟨_, rfl⟩; (replace H : (if 0 ≤ (ji10) then (if 0 ≤ x10_1 then (if x10_1 < (x3_1.length : Int) then (leb_Put.l0 k1 a0 (x3_1.set (x10_1 : Int).toNat (Go.bits .or .u8 ((shr .u64 a0 (ji10)) % 256) 128)) (y189.length : Int) (wrap64 (x10_1 + 1))) else (none)) else (none)) else (none)) = some r := by first | (rw [hji10] at H; exact H) | (simp only [hji10] at H ⊢; exact H)); have hji10w : (IntKind.i64.wrap (7 * x10_1)) = ji10 := (i64_w _).trans hji10; (by_cases c11 : 0 ≤ (ji10))
         · rw [if_pos c11] at H
           have c11b0 := eq_true c11; have c11b1 : decide (0 ≤ (ji10)) = true := dT_ c11; clear c11; obtain ⟨ji12, hji12⟩ : ∃ j_ : Int, (shr .u64 a0 (ji10)) = j_ := ⟨_, rfl⟩; (replace H : (if 0 ≤ x10_1 then (if x10_1 < (x3_1.length : Int) then (leb_Put.l0 k1 a0 (x3_1.set (x10_1 : Int).toNat (Go.bits .or .u8 ((ji12) % 256) 128)) (y189.length : Int) (wrap64 (x10_1 + 1))) else (none)) else (none)) = some r := by first | (rw [hji12] at H; exact H) | (simp only [hji12] at H ⊢; exact H)); have hji12_ : (a0 / 2 ^ min (ji10).toNat 64) = ji12 := hji12; have hji12z : (ji10) ≤ 64 → (a0 / 2 ^ (ji10).toNat) = ji12 := shr_small hji12; (by_cases c13 : 0 ≤ x10_1)
           · rw [if_pos c13] at H
             have c13b0 : decide (0 ≤ x10_1) = true := dT_ c13; clear c13; (by_cases c14 : x10_1 < (x3_1.length : Int))
             · rw [if_pos c14] at H
               have c14b0 : decide (x10_1 < (x3_1.length : Int)) = true := dT_ c14; (try (have c14b0n := c14b0; simp only [hl3_1] at c14b0n)); clear c14; obtain ⟨y192, hy192⟩ : ∃ y_ : List Int, y_ = (x3_1.set (x10_1 : Int).toNat (Go.bits .or .u8 ((ji12) % 256) 128)) := ⟨_, rfl⟩; (replace H : (leb_Put.l0 k1 a0 y192 (y189.length : Int) (wrap64 (x10_1 + 1))) = some r := yZ_ H hy192); have Ny192 := aM_ hy192; clear hy192; have H' := aM_ H; clear H; have p15 : 0 ≤ (x10_1 : Int) := oD_ (by assumption); have q15 : (x10_1 : Int) < ((x3_1.length : Int) : Int) := oD_ (by assumption); obtain ⟨go15, co15, eo15, gb15, gl15, cl15, HG15⟩ := Kd.R_form HO_3.out (by omega); (first | cases eo15 | (injection eo15 with ea_ en_ ec_; (first | subst ea_ | (injection ea_ with ea_; subst ea_)); subst ec_; clear en_)); have GB15 := aM_ gb15; have GG15 := aM_ HG15; clear gb15 gl15 HG15; obtain ⟨hx15_0, hf15_0⟩ := Kd.R_celln 0 HO_3.out (x10_1 : Int) p15 q15; replace p15 := eq_true p15; replace q15 := eq_true q15; have HP16 := Kd.R_putg HO_3.out (x10_1 : Int) (Go.bits .or .u8 ((ji12) % 256) 128); (go_wp2_with (first | ((with_reducible refine gate_store (t := 5) (p := 21) rfl ?_); refine store_event (t := 5) (p := 21) (v := ?vo_w17) (w1 := (wr.setCell ⟨go15, (x10_1 : Int).toNat, none⟩ (.int .u8 (Go.bits .or .u8 ((ji12) % 256) 128)))) ?hg ?ho ?hn ?hr ?_; (case ho => rfl); (case hg => rfl); (case hn => rfl); (case hr => first | (go_simp; done) | (go_simp; rfl)); intro w17 hw; have hg : wr.grownBy w17 (some go15) := (by rw [hw]; exact HP16.2); have hp_ : Kd.R (Kd.int .u8) 5 w17 w.heap.size (fun _ => True) (.slice (some ⟨go15, 0, none⟩) x3_1.length co8) y192 := (by rw [hw, Ny192.out]; exact HP16.1); clear HP16; have n0_ := aM_ (hp_); have n1_ := aM_ ((by rw [hw]; exact bS_ (HB.out) GB15.out : Below w.heap.size w w17)); clear HO_3; clear HB; have HO_3 := n0_; have HB := n1_; clear n0_ n1_; clear hg hw hp_))); (try simp only [← hl3_1]); (go_roundg k1)
               case measure => have := HK1.out; omega
               case rel => exact ⟨(y192), (wrap64 (x10_1 + 1)), (by first | rfl | (simp; done) | (simp [*]; done)), H', ⟨by have := HK1.out; omega⟩, ⟨by (try simp only [hl3_1]); exact rZ_ HO_3.out⟩, ⟨bZ0_ HB.out⟩⟩
             (· rw [if_neg c14] at H; exact absurd H (by simp))
           (· rw [if_neg c13] at H; exact absurd H (by simp))
         (· rw [if_neg c11] at H; exact absurd H (by simp))
       · rw [if_neg c9] at H
         have c9b0 : decide (x10_1 < (y189.length : Int)) = false := decide_eq_false c9; (try (have c9b0n := c9b0; simp only [hl3_1] at c9b0n)); clear c9; obtain ⟨ji18, hji18⟩ : ∃ j_ : Int, (wrap64 ((x3_1.length : Int) - 1)) = j_ := ⟨_, rfl⟩; (replace H : (if 0 ≤ (ji18) then (if (ji18) < (x3_1.length : Int) then (some (x3_1.set ((ji18) : Int).toNat (Go.bits .andNot .u8 (rd x3_1 (ji18)) 128))) else (none)) else (none)) = some r := by first | (rw [hji18] at H; exact H) | (simp only [hji18] at H ⊢; exact H)); have hji18w : (IntKind.i64.wrap ((x3_1.length : Int) - 1)) = ji18 := (i64_w _).trans hji18; (by_cases c19 : 0 ≤ (ji18))
         · rw [if_pos c19] at H
           have c19b0 : decide (0 ≤ (ji18)) = true := dT_ c19; clear c19; (by_cases c20 : (ji18) < (x3_1.length : Int)); (· rw [if_pos c20] at H; have c20b0 : decide ((ji18) < (x3_1.length : Int)) = true := dT_ c20; (try (have c20b0n := c20b0; simp only [hl3_1] at c20b0n)); clear c20; obtain ⟨y194, hy194⟩ : ∃ y_ : List Int, y_ = (x3_1.set ((ji18) : Int).toNat (Go.bits .andNot .u8 (rd x3_1 (ji18)) 128)) := ⟨_, rfl⟩; (replace H : (some y194) = some r := yZ_ H hy194); have Ny194 := aM_ hy194; clear hy194; obtain rfl := oJ_ H; simp only [oI_, pI_] at H; obtain ⟨rfl⟩ := H; have p193 : 0 ≤ ((ji18) : Int) := oD_ (by assumption); have q193 : (ji18) < (x3_1.length : Int) := oD_ (by assumption); obtain ⟨ad193, e193, hx193_0⟩ := Kd.at_int (rR_ HO_3.out).2.2 (ji18) p193 q193; (cases e193); replace p193 := eq_true p193; replace q193 := eq_true q193; have p21 : 0 ≤ ((ji18) : Int) := oD_ (by assumption); have q21 : ((ji18) : Int) < ((x3_1.length : Int) : Int) := oD_ (by assumption); obtain ⟨go21, co21, eo21, gb21, gl21, cl21, HG21⟩ := Kd.R_form HO_3.out (by omega); (first | cases eo21 | (injection eo21 with ea_ en_ ec_; (first | subst ea_ | (injection ea_ with ea_; subst ea_)); subst ec_; clear en_)); have GB21 := aM_ gb21; have GG21 := aM_ HG21; clear gb21 gl21 HG21; (first | simp only [add_plain] at hx193_0 | skip); obtain ⟨hx21_0, hf21_0⟩ := Kd.R_celln 0 HO_3.out ((ji18) : Int) p21 q21; replace p21 := eq_true p21; replace q21 := eq_true q21; have HP22 := Kd.R_putg HO_3.out ((ji18) : Int) (Go.bits .andNot .u8 (rd x3_1 (ji18)) 128); (go_wp2_with (first | ((with_reducible refine gate_store (t := 5) (p := 30) rfl ?_); refine store_event (t := 5) (p := 30) (v := ?vo_w23) (w1 := (wr.setCell ⟨go21, ((ji18) : Int).toNat, none⟩ (.int .u8 (Go.bits .andNot .u8 (rd x3_1 (ji18)) 128)))) ?hg ?ho ?hn ?hr ?_; (case ho => rfl); (case hg => rfl); (case hn => rfl); (case hr => first | (go_simp; done) | (go_simp; rfl)); intro w23 hw; have hg : wr.grownBy w23 (some go21) := (by rw [hw]; exact HP22.2); have hp_ : Kd.R (Kd.int .u8) 5 w23 w.heap.size (fun _ => True) (.slice (some ⟨go21, 0, none⟩) x3_1.length co8) y194 := (by rw [hw, Ny194.out]; exact HP22.1); clear HP22; have n0_ := aM_ (hp_); have n1_ := aM_ ((by rw [hw]; exact bS_ (HB.out) GB21.out : Below w.heap.size w w23)); clear HO_3; clear HB; have HO_3 := n0_; have HB := n1_; clear n0_ n1_; clear hg hw hp_))); go_ret; (exact ⟨_, by first | rfl | (simp [errW_none, errW_some] <;> rfl) | (simp only [← hji18]; first | rfl | (simp [errW_none, errW_some] <;> rfl)) | (simp [*, errW_none, errW_some] <;> rfl), by exact rZ_ HO_3.out, by exact bZ0_ HB.out⟩))
           (· rw [if_neg c20] at H; exact absurd H (by simp))
         (· rw [if_neg c19] at H; exact absurd H (by simp))
   (· rw [if_neg c4] at H; exact absurd H (by simp))
 (· rw [if_neg c3] at H; exact absurd H (by simp))
def leb_Bytes.f (k : Nat) (l0 : List Int) : Option (List Int) := (leb_Put.f k (IntKind.u64.wrap ((l0.length : Int)))).bind fun t195 => (if t195.length + l0.length < 140737488355328 then (some (t195 ++ l0)) else (none))
theorem leb_Bytes.mono : ∀ a0 k, LeO (leb_Bytes.f k a0) (leb_Bytes.f (k + 1) a0) := by
 intro a0 k; unfold leb_Bytes.f
 repeat' first
     | (with_reducible exact leb_Put.mono _ _)
     | (with_reducible exact LeO.refl _)
     | (with_reducible exact LeO.none _)
     | (with_reducible refine LeO.ite ?_ ?_)
     | (with_reducible refine LeO.bind ?_ (fun _ => ?_))
     | exact LeO.none _
     | refine LeO.ite ?_ ?_
     | refine LeO.bind ?_ (fun _ => ?_)
theorem leb_Bytes.calls (k : Nat) (A0 : Option Addr) (c0 : Nat) (l0 : List Int) (r : List Int) (w : World) (hr0 : Kd.C (Kd.int .u8) w A0 l0.length l0) (hc0 : l0.length ≤ c0) (h : leb_Bytes.f k l0 = some r) :
    Calls Tryd.prog 23 #[.slice A0 l0.length c0] w fun e w' => ∃ v0_ : Value, e = .returned (v0_) ∧ Kd.R (Kd.int .u8) 5 w' w.heap.size (fun _ => True) v0_ r ∧ Below w.heap.size w w' := by
 have HR0 := aM_ hr0; have HC0 := aM_ hc0; clear hr0 hc0; have HB := aM_ (Below.refl w.heap.size w); have H : ((leb_Put.f k (IntKind.u64.wrap ((l0.length : Int)))).bind fun t195 => (if t195.length + l0.length < 140737488355328 then (some (t195 ++ l0)) else (none))) = some r := h; clear h; replace H := Option.bind_eq_some_iff.mp H; obtain ⟨t195, A20, H⟩ := H; replace H : (if t195.length + l0.length < 140737488355328 then (some (t195 ++ l0)) else (none)) = some r := H; have A2 := aM_ A20; clear A20; (by_cases c3 : t195.length + l0.length < 140737488355328)
 · rw [if_pos c3] at H
   have LMc3 := aM_ c3; clear c3; obtain ⟨y198, hy198⟩ : ∃ y_ : List Int, y_ = (t195 ++ l0) := ⟨_, rfl⟩; (replace H : (some y198) = some r := yZ_ H hy198); have Ny198 := aM_ hy198; clear hy198; obtain rfl := oJ_ H; simp only [oI_, pI_] at H; obtain ⟨rfl⟩ := H; (go_enter Tryd.func23, Tryd.ntmps23)
   go_wp2_with (first | ((with_reducible refine gate_callee (f := 38) rfl ?_); refine goesL_ (some 6) rfl rfl Tryd.func38 (by kernel_rfl) rfl #[.int .u64 (IntKind.u64.wrap ((l0.length : Int)))] rfl (by (try simp only [mA_, mC_, mN_]); first | done | rfl | (simp only [lD_, lT_]; rfl)) ?_; (with_reducible refine (leb_Put.calls k (IntKind.u64.wrap ((l0.length : Int))) t195 _ A2.out).mono ?_); rintro e w4 ⟨v196, rfl, ho0, hb⟩; refine ⟨_, rfl, ?_⟩; have n0_ := aM_ (Kd.R_lower ho0 (bZ_ (bZ0_ HB.out))); have n1_ := aM_ (bT_ (bZ0_ HB.out) hb); clear HB; have HO197 := n0_; have HB := n1_; clear n0_ n1_; (try clear hb); (try clear hb2); (try clear hk); (try clear hi); (try clear ho0)) | ((with_reducible refine gate_builtin (b := .append) (xs := #[.tmp 6, .tmp 7]) rfl ?_); at_builtin; refine Kd.R_append_rows (Kd.int .u8) (w0 := w) w.heap.size rfl (.tmp 6) (.tmp 7) 22 5 (.int .u8 0) 1 rfl Tryd.underlying22 info5 rfl (by decide) (by omega) v196 t195 l0 _ _ _ (fun _ => True) (fun _ => False) rfl rfl ?aO ?aR (fun _ _ h => h) (fun _ h => h.elim) ?aF ?aB ?aS ?aL ?_; (case aR => repeat (first | exact (Kd.C_below HR0.out HB.out) | (with_reducible refine Kd.C_alloc ?_ _) | (with_reducible refine Kd.C_drewN ?_ _) | (with_reducible refine Kd.C_drew ?_))); (case aB => exact (bZ0_ HB.out)); (case aF => exact (fun _ _ => trivial)); (case aO => exact (rZ_ HO197.out)); (case aS => exact (bZ_ (bZ0_ HB.out))); (case aL => have := LMc3.out; omega); intro v199 w5 ho hb hg hat; rw [← Ny198.out] at ho; have n0_ := aM_ (hb); have n1_ := aM_ (ho); clear HB; clear HO197; have HB := n0_; have HO200 := n1_; clear n0_ n1_; clear ho hb hg hat))
   go_ret; (exact ⟨_, by first | rfl | (simp [errW_none, errW_some] <;> rfl) | (simp [*, errW_none, errW_some] <;> rfl), by exact rZ_ HO200.out, by exact bZ0_ HB.out⟩)
 (· rw [if_neg c3] at H; exact absurd H (by simp))
end Go.Proofs.YtbnkcbfhappgnaaDoor.Fn
