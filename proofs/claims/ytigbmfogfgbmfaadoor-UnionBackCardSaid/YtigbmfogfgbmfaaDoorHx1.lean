import Derived.Test.YtigbmfogfgbmfaaDoorHx0
import Derived.Test.YtigbmfogfgbmfaaDoorShv
namespace Go.Proofs.YtigbmfogfgbmfaaDoor.Fn
set_option maxHeartbeats 8000000
set_option maxRecDepth 100000
open Go.RowKit Go.Proofs.YtigbmfogfgbmfaaDoorW.PrintWords Go.Proofs.YtigbmfogfgbmfaaDoorW.PrintLast Go.Proofs.YtigbmfogfgbmfaaDoorW.PrintMore
attribute [local go_sem] max2_int min2_int max_two min_two max_three min_three max_four min_four
set_option linter.unusedVariables false
set_option linter.unusedSimpArgs false
def nmBad (s : ByteArray) : Nat → Nat → Bool
  | 0, _ => false
  | n + 1, pos => if pos < s.size then (if (Utf8.decode s pos).1 = 47 then true else if (Utf8.decode s pos).1 = 0 then true else nmBad s n (pos + (Utf8.decode s pos).2)) else false
def name_Check.f (a0 : ByteArray) : Option Int := some (if a0.toList = ([] : List UInt8) then 206 else if (a0.size : Int) > 100 then 208 else if a0.toList = ([46] : List UInt8) then 206 else if a0.toList = ([46, 46] : List UInt8) then 206 else if Lib.validD a0.data.toList = true then (if nmBad a0 a0.size 0 = true then 206 else 0) else 206)
theorem nm_width_pos (s : ByteArray) (pos : Nat) (h : pos < s.size) : 1 ≤ (Utf8.decode s pos).2 := by
 rcases Nat.lt_or_ge (s[pos]'h).toNat 128 with ha | ha
 (· rw [decode_ascii s pos h ha]; exact Nat.le_refl _); (· exact (decode_high s pos h ha).2)
theorem name_Check.calls (a0 : ByteArray) (r : Int) (w : World) (hG : Glob w) (h : name_Check.f a0 = some r) :
    Calls Tryd.prog 42 #[.string a0] w fun e w' => e = .returned (.int .i64 r) ∧ Below w.heap.size w w' := by
 have HG := aM_ hG; have H : (if a0.toList = ([] : List UInt8) then 206 else if (a0.size : Int) > 100 then 208 else if a0.toList = ([46] : List UInt8) then 206 else if a0.toList = ([46, 46] : List UInt8) then 206 else if Lib.validD a0.data.toList = true then (if nmBad a0 a0.size 0 = true then 206 else 0) else 206) = r := oJ_ h; clear h hG; (by_cases c2 : a0.toList = ([] : List UInt8)); (· rw [if_pos c2] at H; subst H; have c2b0 : (a0.toList == ([] : List UInt8)) = true := beq_iff_eq.mpr c2; clear c2; (go_enter Tryd.func42, Tryd.ntmps42); go_wp2; go_ret; exact ⟨rfl, Below.refl _ _⟩); rw [if_neg c2] at H; have c2b0 : (a0.toList == ([] : List UInt8)) = false := beq_eq_false_iff_ne.mpr c2; (by_cases c3 : (a0.size : Int) > 100); (· rw [if_pos c3] at H; subst H; have c3b0 : decide (100 < (a0.size : Int)) = true := dT_ c3; have c3b1 : decide (100 < a0.size) = true := dT_ (by omega); clear c3; (go_enter Tryd.func42, Tryd.ntmps42); go_wp2; go_ret; exact ⟨rfl, Below.refl _ _⟩); rw [if_neg c3] at H; have c3b0 : decide (100 < (a0.size : Int)) = false := decide_eq_false c3; have c3b1 : decide (100 < a0.size) = false := decide_eq_false (by omega); have hsz := aM_ (show a0.size ≤ 100 by omega); clear c3; (by_cases c5 : a0.toList = ([46] : List UInt8)); (· rw [if_pos c5] at H; subst H; have c5b0 : (a0.toList == ([46] : List UInt8)) = true := beq_iff_eq.mpr c5; clear c5; (go_enter Tryd.func42, Tryd.ntmps42); go_wp2; go_ret; exact ⟨rfl, Below.refl _ _⟩); rw [if_neg c5] at H; have c5b0 : (a0.toList == ([46] : List UInt8)) = false := beq_eq_false_iff_ne.mpr c5; clear c5; (by_cases c6 : a0.toList = ([46, 46] : List UInt8)); (· rw [if_pos c6] at H; subst H; have c6b0 : (a0.toList == ([46, 46] : List UInt8)) = true := beq_iff_eq.mpr c6; clear c6; (go_enter Tryd.func42, Tryd.ntmps42); go_wp2; go_ret; exact ⟨rfl, Below.refl _ _⟩); rw [if_neg c6] at H; have c6b0 : (a0.toList == ([46, 46] : List UInt8)) = false := beq_eq_false_iff_ne.mpr c6; clear c6; have cV := Any.utf8_ValidString Tryd.laysValid a0 w (by have := hsz.out; omega) HG.out; change Calls Tryd.prog 51 _ _ _ at cV; (by_cases c7 : Lib.validD a0.data.toList = true)
 case neg =>
  rw [if_neg c7] at H; subst H; (have c7b : Lib.validD a0.data.toList = false := by cases hv : Lib.validD a0.data.toList <;> simp_all); rw [c7b] at cV; clear c7 c7b; (go_enter Tryd.func42, Tryd.ntmps42); (go_wp2_with (go_at_call 51; refine cV.mono ?_; rintro e w' ⟨rfl, hb⟩; have HB := aM_ hb; clear hb)); go_ret; exact ⟨rfl, HB.out⟩
 rw [if_pos c7] at H; rw [c7] at cV; obtain ⟨NB, hNB⟩ : ∃ NB, nmBad a0 a0.size 0 = NB := ⟨_, rfl⟩; rw [hNB] at H; have HX := aM_ H; have hNB := aM_ hNB; clear H c7 HG; (go_enter Tryd.func42, Tryd.ntmps42); (go_wp2_with (go_at_call 51; refine cV.mono ?_; rintro e w1 ⟨rfl, hb⟩; have HB := aM_ hb; clear hb)); clear cV; (go_loopg [4] (a0.size + 1) (fun gk _ wx => ∃ pos fuel : Nat, Aside0 (wx.heap[w1.heap.size]? = some (.stringIter a0 pos)) ∧ Aside0 (Below w.heap.size w wx) ∧ Aside0 (nmBad a0 fuel pos = NB) ∧ Aside0 (a0.size ≤ pos + fuel ∧ a0.size + 1 ≤ pos + gk)))
 case atStart => exact ⟨0, a0.size, ⟨World.iter_heap w1 a0 0⟩, ⟨HB.out.alloc HB.out.size _⟩, hNB, ⟨by omega⟩⟩
 case round =>
  obtain ⟨pos, fuel, HI, HW, HN, HF⟩ := hrel; (by_cases hp : pos < a0.size)
  case neg =>
   have hnx : ∀ ty, (Instr.next (.pointer (some ⟨w1.heap.size, 0, none⟩)) true ty).run Tryd.prog wr = _ := fun ty => Lib.run_next_end_at wr w1.heap.size a0 pos ty HI.out hp
   have hr : r = 0 := by
    rw [← HX.out, ← HN.out]
    cases fuel with
    | zero => rfl
    | succ f => unfold nmBad; rw [if_neg hp]; rfl
   subst hr; clear hp; go_wp2; go_ret; exact ⟨rfl, HW.out⟩
  have hnx : ∀ ty, (Instr.next (.pointer (some ⟨w1.heap.size, 0, none⟩)) true ty).run Tryd.prog wr = _ := fun ty => Lib.run_next_any_at wr w1.heap.size a0 pos ty HI.out hp; have hwd := nm_width_pos a0 pos hp; obtain ⟨f1, rfl⟩ : ∃ f', fuel = f' + 1 := ⟨fuel - 1, by have := HF.out; omega⟩; have HI2 := aM_ (Lib.iterAt_heap wr w1.heap.size a0 pos (pos + (Utf8.decode a0 pos).2) HI.out); have HW2 := aM_ (Lib.below_iterAt HW.out (k := w1.heap.size) HB.out.size a0 (pos + (Utf8.decode a0 pos).2)); obtain ⟨k1, rfl⟩ : ∃ k', gk = k' + 1 := ⟨gk - 1, by have := HF.out; omega⟩; have hN := HN.out; unfold nmBad at hN; rw [if_pos hp] at hN; have HF2 := aM_ (show a0.size ≤ (pos + (Utf8.decode a0 pos).2) + f1 ∧ a0.size + 1 ≤ (pos + (Utf8.decode a0 pos).2) + k1 by have := HF.out; omega); clear HF hwd HN HI HW hp; generalize wr.iterAt w1.heap.size a0 (pos + (Utf8.decode a0 pos).2) = wn at hnx HI2 HW2; generalize pos + (Utf8.decode a0 pos).2 = pos2 at hN HI2 HF2; generalize (Utf8.decode a0 pos).1 = c at hN hnx; (by_cases d1 : c = 47); (· rw [if_pos d1] at hN; (have hr : r = 206 := by rw [← HX.out, ← hN]; rfl); subst hr d1; clear hN; go_wp2; go_ret; exact ⟨rfl, HW2.out⟩); rw [if_neg d1] at hN; (have e1 : ((c : Int) == 47) = false := by simp; omega); (by_cases d2 : c = 0); (· rw [if_pos d2] at hN; (have hr : r = 206 := by rw [← HX.out, ← hN]; rfl); subst hr d2; clear hN; go_wp2; go_ret; exact ⟨rfl, HW2.out⟩); rw [if_neg d2] at hN; (have e2 : ((c : Int) == 0) = false := by simp; omega); have HN2 := aM_ hN; clear hN d1 d2; go_wp2; (go_roundg k1)
  case measure => exact Nat.lt_succ_self _
  case rel => exact ⟨pos2, f1, HI2, HW2, HN2, HF2⟩
def obj_rising.l0 : Nat → List ByteArray → List ByteArray → Int → Int → Option (Bool)
  | 0, _, _, _, _ => none
  | k + 1, x0, x5, x6, x7 => if x7 < x6 then (if 0 ≤ x7 then (if x7 < (x5.length : Int) then ((name_Check.f (rdOf ByteArray.empty x5 x7)).bind fun t109 => (if t109 = 0 then (if x7 > 0 then (if 0 ≤ (wrap64 (x7 - 1)) then (if (wrap64 (x7 - 1)) < (x0.length : Int) then (if (Op.bytesLess ((rdOf ByteArray.empty x5 x7).toList) ((rdOf ByteArray.empty x0 (wrap64 (x7 - 1))).toList) || ((rdOf ByteArray.empty x5 x7).toList) == ((rdOf ByteArray.empty x0 (wrap64 (x7 - 1))).toList)) = true then (some false) else (obj_rising.l0 k x0 x5 x6 (wrap64 (x7 + 1)))) else (none)) else (none)) else (obj_rising.l0 k x0 x5 x6 (wrap64 (x7 + 1)))) else (some false))) else (none)) else (none)) else (some true)
def obj_rising.f (k : Nat) (l0 : List ByteArray) : Option (Bool) := obj_rising.l0 k l0 l0 (l0.length : Int) 0
theorem obj_rising.mono_l : ∀ k, (∀ y0 y1 y2 y3, LeO (obj_rising.l0 k y0 y1 y2 y3) (obj_rising.l0 (k + 1) y0 y1 y2 y3))
  | 0 => fun _ _ _ _ r h => by simp [obj_rising.l0] at h
  | k + 1 => by
    have ih0 := obj_rising.mono_l k
    · intro y0 y1 y2 y3
      unfold obj_rising.l0
      repeat' first
      | (with_reducible exact ih0 _ _ _ _)
      | (with_reducible exact LeO.refl _)
      | (with_reducible exact LeO.none _)
      | (with_reducible refine LeO.ite ?_ ?_)
      | (with_reducible refine LeO.bind ?_ (fun _ => ?_))
      | exact ih0 _ _ _ _
      | exact LeO.none _
      | refine LeO.ite ?_ ?_
      | refine LeO.bind ?_ (fun _ => ?_)
theorem obj_rising.mono : ∀ a0 k, LeO (obj_rising.f k a0) (obj_rising.f (k + 1) a0) := by
 intro a0 k; have ih0 := obj_rising.mono_l k; unfold obj_rising.f
 repeat' first
     | (with_reducible exact ih0 _ _ _ _)
     | (with_reducible exact LeO.refl _)
     | (with_reducible exact LeO.none _)
     | (with_reducible refine LeO.ite ?_ ?_)
     | (with_reducible refine LeO.bind ?_ (fun _ => ?_))
     | exact ih0 _ _ _ _
     | exact LeO.none _
     | refine LeO.ite ?_ ?_
     | refine LeO.bind ?_ (fun _ => ?_)
theorem obj_rising.calls (k : Nat) (A0 : Option Addr) (c0 : Nat) (l0 : List ByteArray) (r : Bool) (w : World) (hr0 : Kd.C Kd.string w A0 l0.length l0) (hc0 : l0.length ≤ c0) (hG : Glob w) (h : obj_rising.f k l0 = some r) :
    Calls Tryd.prog 34 #[.slice A0 l0.length c0] w fun e w' => e = .returned (.bool r) ∧ Below w.heap.size w w' := by
 have HR0 := aM_ hr0; have HC0 := aM_ hc0; clear hr0 hc0; have HB := aM_ (Below.refl w.heap.size w); have HG := aM_ hG; clear hG; have H : (obj_rising.l0 k l0 l0 (l0.length : Int) 0) = some r := h; clear h; have H' := aM_ H; clear H; (go_enter Tryd.func34, Tryd.ntmps34); go_wp2; (go_loopg [7] k (fun kq v7 w' => ∃ (x7_1 : Int), v7 = .int .i64 x7_1 ∧ Aside0 (obj_rising.l0 kq l0 l0 (l0.length : Int) x7_1 = some r) ∧ Aside0 (kq ≤ k) ∧ Aside0 (Below w.heap.size w w')))
 case atStart => exact ⟨(0), (by first | rfl | (simp; done) | (simp [*]; done)), H', ⟨Nat.le_refl _⟩, ⟨bZ0_ HB.out⟩⟩
 case round =>
  clear H'; obtain ⟨x7_1, rfl, HA, HK1, HB⟩ := hrel
  cases gk with
  | zero => exact absurd HA.out (by simp [obj_rising.l0])
  | succ k1 =>
   have H := HA.out; clear HA; simp only [obj_rising.l0] at H; (by_cases c2 : x7_1 < (l0.length : Int))
   · rw [if_pos c2] at H
     have c2b0 : decide (x7_1 < (l0.length : Int)) = true := dT_ c2; clear c2; (by_cases c3 : 0 ≤ x7_1)
     · rw [if_pos c3] at H
       have c3b0 : decide (0 ≤ x7_1) = true := dT_ c3; clear c3; (by_cases c4 : x7_1 < (l0.length : Int))
       · rw [if_pos c4] at H
         have c4b0 : decide (x7_1 < (l0.length : Int)) = true := dT_ c4; clear c4; replace H := Option.bind_eq_some_iff.mp H; obtain ⟨t109, A50, H⟩ := H; replace H : (if t109 = 0 then (if x7_1 > 0 then (if 0 ≤ (wrap64 (x7_1 - 1)) then (if (wrap64 (x7_1 - 1)) < (l0.length : Int) then (if (Op.bytesLess ((rdOf ByteArray.empty l0 x7_1).toList) ((rdOf ByteArray.empty l0 (wrap64 (x7_1 - 1))).toList) || ((rdOf ByteArray.empty l0 x7_1).toList) == ((rdOf ByteArray.empty l0 (wrap64 (x7_1 - 1))).toList)) = true then (some false) else (obj_rising.l0 k1 l0 l0 (l0.length : Int) (wrap64 (x7_1 + 1)))) else (none)) else (none)) else (obj_rising.l0 k1 l0 l0 (l0.length : Int) (wrap64 (x7_1 + 1)))) else (some false)) = some r := H; have A5 := aM_ A50; clear A50; (by_cases c6 : t109 = 0)
         · rw [if_pos c6] at H
           have c6b0 : (t109 == 0) = true := beq_iff_eq.mpr c6; have c6b1 : (t109 != 0) = false := bne_eq_false_iff_eq.mpr c6; clear c6; (by_cases c7 : x7_1 > 0)
           · rw [if_pos c7] at H
             have c7b0 : decide (0 < x7_1) = true := dT_ c7; clear c7; obtain ⟨ji8, hji8⟩ : ∃ j_ : Int, (wrap64 (x7_1 - 1)) = j_ := ⟨_, rfl⟩; (replace H : (if 0 ≤ (ji8) then (if (ji8) < (l0.length : Int) then (if (Op.bytesLess ((rdOf ByteArray.empty l0 x7_1).toList) ((rdOf ByteArray.empty l0 (ji8)).toList) || ((rdOf ByteArray.empty l0 x7_1).toList) == ((rdOf ByteArray.empty l0 (ji8)).toList)) = true then (some false) else (obj_rising.l0 k1 l0 l0 (l0.length : Int) (wrap64 (x7_1 + 1)))) else (none)) else (none)) = some r := by first | (rw [hji8] at H; exact H) | (simp only [hji8] at H ⊢; exact H)); (try rw [hji8] at A5); have hji8w : (IntKind.i64.wrap (x7_1 - 1)) = ji8 := (i64_w _).trans hji8; (by_cases c9 : 0 ≤ (ji8))
             · rw [if_pos c9] at H
               have c9b0 : decide (0 ≤ (ji8)) = true := dT_ c9; clear c9; (by_cases c10 : (ji8) < (l0.length : Int))
               · rw [if_pos c10] at H
                 have c10b0 : decide ((ji8) < (l0.length : Int)) = true := dT_ c10; clear c10; (by_cases c11 : (Op.bytesLess ((rdOf ByteArray.empty l0 x7_1).toList) ((rdOf ByteArray.empty l0 (ji8)).toList) || ((rdOf ByteArray.empty l0 x7_1).toList) == ((rdOf ByteArray.empty l0 (ji8)).toList)) = true)
                 · rw [if_pos c11] at H
                   have c11b0 : (Op.bytesLess ((rdOf ByteArray.empty l0 x7_1).toList) ((rdOf ByteArray.empty l0 (ji8)).toList) || ((rdOf ByteArray.empty l0 x7_1).toList) == ((rdOf ByteArray.empty l0 (ji8)).toList)) = true := c11; (try (have c11b1 : decide (Op.bytesLess ((rdOf ByteArray.empty l0 x7_1).toList) ((rdOf ByteArray.empty l0 (ji8)).toList) || ((rdOf ByteArray.empty l0 x7_1).toList) = ((rdOf ByteArray.empty l0 (ji8)).toList)) = true := by simpa using c11)); (try (have c11b2 : (Op.bytesLess ((rdOf ByteArray.empty l0 x7_1).toList) ((rdOf ByteArray.empty l0 (ji8)).toList) || ((rdOf ByteArray.empty l0 x7_1).toList) == ((rdOf ByteArray.empty l0 (ji8)).toList)) = true := by simpa using c11)); clear c11; obtain rfl := oJ_ H; simp only [oI_, pI_] at H; obtain ⟨rfl⟩ := H; have p108 : 0 ≤ (x7_1 : Int) := oD_ (by assumption); have q108 : x7_1 < (l0.length : Int) := oD_ (by assumption); obtain ⟨ad108, e108, hx108_0⟩ := Kd.at_string HR0.out x7_1 p108 q108; (cases e108); replace hx108_0 := (HB.out.cell (lC_ w _ hx108_0)).trans hx108_0; replace p108 := eq_true p108; replace q108 := eq_true q108
                   go_wp2_with (first | ((with_reducible refine gate_callee (f := 42) rfl ?_); refine goesL_ (some 13) rfl rfl Tryd.func42 (by kernel_rfl) rfl #[.string (rdOf ByteArray.empty l0 x7_1)] rfl (by (try simp only [mA_, mC_, mN_]); first | done | rfl | (simp only [lD_, lT_]; rfl)) ?_; (with_reducible refine (name_Check.calls (rdOf ByteArray.empty l0 x7_1) t109 _ ?side1 A5.out).mono ?_); (case side1 => exact Glob.below HG.out (bZ0_ HB.out)); rintro e w12 ⟨rfl, hb⟩; refine ⟨_, rfl, ?_⟩; have n0_ := aM_ (bT_ (bZ0_ HB.out) hb); clear HB; have HB := n0_; clear n0_; (try clear hb); (try clear hb2); (try clear hk); (try clear hi); have p110 : 0 ≤ ((ji8) : Int) := oD_ (by assumption); have q110 : (ji8) < (l0.length : Int) := oD_ (by assumption); obtain ⟨ad110, e110, hx110_0⟩ := Kd.at_string HR0.out (ji8) p110 q110; obtain rfl : ad108 = ad110 := (by injection e110); replace hx110_0 := (HB.out.cell (lC_ w _ hx110_0)).trans hx110_0; replace p110 := eq_true p110; replace q110 := eq_true q110))
                   go_ret; (exact ⟨by first | rfl | (simp [errW_none, errW_some] <;> rfl) | (simp only [← hji8]; first | rfl | (simp [errW_none, errW_some] <;> rfl)) | (simp [*, errW_none, errW_some] <;> rfl), by exact bZ0_ HB.out⟩)
                 · rw [if_neg c11] at H
                   (have c11b0 : (Op.bytesLess ((rdOf ByteArray.empty l0 x7_1).toList) ((rdOf ByteArray.empty l0 (ji8)).toList) || ((rdOf ByteArray.empty l0 x7_1).toList) == ((rdOf ByteArray.empty l0 (ji8)).toList)) = false := by simpa using c11); (try (have c11b1 : decide (Op.bytesLess ((rdOf ByteArray.empty l0 x7_1).toList) ((rdOf ByteArray.empty l0 (ji8)).toList) || ((rdOf ByteArray.empty l0 x7_1).toList) = ((rdOf ByteArray.empty l0 (ji8)).toList)) = false := by simpa using c11)); (try (have c11b2 : (Op.bytesLess ((rdOf ByteArray.empty l0 x7_1).toList) ((rdOf ByteArray.empty l0 (ji8)).toList) || ((rdOf ByteArray.empty l0 x7_1).toList) == ((rdOf ByteArray.empty l0 (ji8)).toList)) = false := by simpa using c11)); (try (have c11b3 : ¬ (Op.bytesLess ((rdOf ByteArray.empty l0 x7_1).toList) ((rdOf ByteArray.empty l0 (ji8)).toList) || ((rdOf ByteArray.empty l0 x7_1).toList) = ((rdOf ByteArray.empty l0 (ji8)).toList)) := by simpa using c11)); clear c11; have H' := aM_ H; clear H; have p108 : 0 ≤ (x7_1 : Int) := oD_ (by assumption); have q108 : x7_1 < (l0.length : Int) := oD_ (by assumption); obtain ⟨ad108, e108, hx108_0⟩ := Kd.at_string HR0.out x7_1 p108 q108; (cases e108); replace hx108_0 := (HB.out.cell (lC_ w _ hx108_0)).trans hx108_0; replace p108 := eq_true p108; replace q108 := eq_true q108
                   go_wp2_with (first | ((with_reducible refine gate_callee (f := 42) rfl ?_); refine goesL_ (some 13) rfl rfl Tryd.func42 (by kernel_rfl) rfl #[.string (rdOf ByteArray.empty l0 x7_1)] rfl (by (try simp only [mA_, mC_, mN_]); first | done | rfl | (simp only [lD_, lT_]; rfl)) ?_; (with_reducible refine (name_Check.calls (rdOf ByteArray.empty l0 x7_1) t109 _ ?side1 A5.out).mono ?_); (case side1 => exact Glob.below HG.out (bZ0_ HB.out)); rintro e w13 ⟨rfl, hb⟩; refine ⟨_, rfl, ?_⟩; have n0_ := aM_ (bT_ (bZ0_ HB.out) hb); clear HB; have HB := n0_; clear n0_; (try clear hb); (try clear hb2); (try clear hk); (try clear hi); have p110 : 0 ≤ ((ji8) : Int) := oD_ (by assumption); have q110 : (ji8) < (l0.length : Int) := oD_ (by assumption); obtain ⟨ad110, e110, hx110_0⟩ := Kd.at_string HR0.out (ji8) p110 q110; obtain rfl : ad108 = ad110 := (by injection e110); replace hx110_0 := (HB.out.cell (lC_ w _ hx110_0)).trans hx110_0; replace p110 := eq_true p110; replace q110 := eq_true q110))
                   (go_roundg k1)
                   case measure => have := HK1.out; omega
                   case rel => exact ⟨(wrap64 (x7_1 + 1)), (by first | rfl | (simp; done) | (simp [*]; done)), H', ⟨by have := HK1.out; omega⟩, ⟨bZ0_ HB.out⟩⟩
               (· rw [if_neg c10] at H; exact absurd H (by simp))
             (· rw [if_neg c9] at H; exact absurd H (by simp))
           · rw [if_neg c7] at H
             have c7b0 : decide (0 < x7_1) = false := decide_eq_false c7; clear c7; have H' := aM_ H; clear H; have p108 : 0 ≤ (x7_1 : Int) := oD_ (by assumption); have q108 : x7_1 < (l0.length : Int) := oD_ (by assumption); obtain ⟨ad108, e108, hx108_0⟩ := Kd.at_string HR0.out x7_1 p108 q108; (cases e108); replace hx108_0 := (HB.out.cell (lC_ w _ hx108_0)).trans hx108_0; replace p108 := eq_true p108; replace q108 := eq_true q108; (go_wp2_with (first | ((with_reducible refine gate_callee (f := 42) rfl ?_); refine goesL_ (some 13) rfl rfl Tryd.func42 (by kernel_rfl) rfl #[.string (rdOf ByteArray.empty l0 x7_1)] rfl (by (try simp only [mA_, mC_, mN_]); first | done | rfl | (simp only [lD_, lT_]; rfl)) ?_; (with_reducible refine (name_Check.calls (rdOf ByteArray.empty l0 x7_1) t109 _ ?side1 A5.out).mono ?_); (case side1 => exact Glob.below HG.out (bZ0_ HB.out)); rintro e w14 ⟨rfl, hb⟩; refine ⟨_, rfl, ?_⟩; have n0_ := aM_ (bT_ (bZ0_ HB.out) hb); clear HB; have HB := n0_; clear n0_; (try clear hb); (try clear hb2); (try clear hk); (try clear hi)))); (go_roundg k1)
             case measure => have := HK1.out; omega
             case rel => exact ⟨(wrap64 (x7_1 + 1)), (by first | rfl | (simp; done) | (simp [*]; done)), H', ⟨by have := HK1.out; omega⟩, ⟨bZ0_ HB.out⟩⟩
         (· rw [if_neg c6] at H; have c6b0 : (t109 == 0) = false := beq_eq_false_iff_ne.mpr c6; have c6b1 : (t109 != 0) = true := bne_iff_ne.mpr c6; obtain rfl := oJ_ H; simp only [oI_, pI_] at H; obtain ⟨rfl⟩ := H; have p108 : 0 ≤ (x7_1 : Int) := oD_ (by assumption); have q108 : x7_1 < (l0.length : Int) := oD_ (by assumption); obtain ⟨ad108, e108, hx108_0⟩ := Kd.at_string HR0.out x7_1 p108 q108; (cases e108); replace hx108_0 := (HB.out.cell (lC_ w _ hx108_0)).trans hx108_0; replace p108 := eq_true p108; replace q108 := eq_true q108; (go_wp2_with (first | ((with_reducible refine gate_callee (f := 42) rfl ?_); refine goesL_ (some 13) rfl rfl Tryd.func42 (by kernel_rfl) rfl #[.string (rdOf ByteArray.empty l0 x7_1)] rfl (by (try simp only [mA_, mC_, mN_]); first | done | rfl | (simp only [lD_, lT_]; rfl)) ?_; (with_reducible refine (name_Check.calls (rdOf ByteArray.empty l0 x7_1) t109 _ ?side1 A5.out).mono ?_); (case side1 => exact Glob.below HG.out (bZ0_ HB.out)); rintro e w15 ⟨rfl, hb⟩; refine ⟨_, rfl, ?_⟩; have n0_ := aM_ (bT_ (bZ0_ HB.out) hb); clear HB; have HB := n0_; clear n0_; (try clear hb); (try clear hb2); (try clear hk); (try clear hi)))); go_ret; (exact ⟨by first | rfl | (simp [errW_none, errW_some] <;> rfl) | (simp [*, errW_none, errW_some] <;> rfl), by exact bZ0_ HB.out⟩))
       (· rw [if_neg c4] at H; exact absurd H (by simp))
     (· rw [if_neg c3] at H; exact absurd H (by simp))
   (· rw [if_neg c2] at H; have c2b0 : decide (x7_1 < (l0.length : Int)) = false := decide_eq_false c2; clear c2; obtain rfl := oJ_ H; simp only [oI_, pI_] at H; obtain ⟨rfl⟩ := H; go_wp2; go_ret; (exact ⟨by first | rfl | (simp [errW_none, errW_some] <;> rfl) | (simp [*, errW_none, errW_some] <;> rfl), by exact bZ0_ HB.out⟩))
def bits_Len64.f (a0 : Int) : Option (Int) := if 0 ≤ a0 then (if a0 ≤ 18446744073709551615 then some (Lib.bitLen a0.toNat : Int) else none) else none
set_option maxRecDepth 100000 in
theorem bits_Len64.len8tab_size : (Lib.len8tab.size : Int) = 256 := by
 (have : Lib.len8tab.size = 256 := by decide); omega
theorem bits_Len64.wrap_add (k a b : Nat) (hk : k ≤ 56) (ha : a ≤ 8) (hb : b = k + a) : wrap64 ((k : Int) + wrap64 (a : Int)) = (b : Int) := by
 unfold wrap64; omega
theorem bits_Len64.wrap_wrap (a : Nat) (ha : a ≤ 8) : wrap64 (wrap64 (a : Int)) = (a : Int) := by
 unfold wrap64; omega
theorem bits_Len64.wrap_one (a : Nat) (ha : a ≤ 8) : wrap64 (a : Int) = (a : Int) := by
 unfold wrap64; omega
theorem bits_Len64.len8_get (y : Int) (h : y.toNat < Lib.len8tab.size) : ((Lib.len8tab[y.toNat]'h).toNat : Int) = Lib.len8 y := by
 unfold Lib.len8; rw [getElem?_pos Lib.len8tab y.toNat h]; rfl
set_option maxHeartbeats 32000000 in
set_option maxRecDepth 1000000 in
theorem bits_Len64.calls (x : Int) (r : Int) (w : World) (h : bits_Len64.f x = some r) :
    Calls Tryd.prog 60 #[.int .u64 x] w fun e w' => e = .returned (.int .i64 r) ∧ Drawn0 w w' := by
 unfold bits_Len64.f at h; (by_cases h0 : 0 ≤ x)
 case neg => rw [if_neg h0] at h; cases h
 rw [if_pos h0] at h; (by_cases h1 : x ≤ 18446744073709551615)
 case neg => rw [if_neg h1] at h; cases h
 rw [if_pos h1] at h; obtain rfl := oJ_ h; clear h; (go_enter Tryd.func60, Tryd.ntmps60); go_wp2
 all_goals first
   | (go_ret; refine ⟨congrArg Ending.returned (congrArg (Value.int IntKind.i64) ?_), Drawn0.refl _⟩; go_light)
   | (exfalso
      go_light
      have hs := bits_Len64.len8tab_size
      omega)
 all_goals first
   | (rw [bits_Len64.len8_get (x / 4294967296 / 65536 / 256) _, Lib.len8_of (x / 4294967296 / 65536 / 256) (by omega) (by omega)]
      have e : (x / 4294967296 / 65536 / 256).toNat = x.toNat / 72057594037927936 := by omega
      have l := Lib.bitLen_le8' (x / 4294967296 / 65536 / 256) (by omega) (by omega)
      have s := Lib.bitLen_shift56 x.toNat (by omega) (by omega)
      rw [e] at l ⊢
      exact bits_Len64.wrap_add 56 _ _ (by decide) l s)
   | (rw [bits_Len64.len8_get (x / 4294967296 / 65536) _, Lib.len8_of (x / 4294967296 / 65536) (by omega) (by omega)]
      have e : (x / 4294967296 / 65536).toNat = x.toNat / 281474976710656 := by omega
      have l := Lib.bitLen_le8' (x / 4294967296 / 65536) (by omega) (by omega)
      have s := Lib.bitLen_shift48 x.toNat (by omega) (by omega)
      rw [e] at l ⊢
      exact bits_Len64.wrap_add 48 _ _ (by decide) l s)
   | (rw [bits_Len64.len8_get (x / 4294967296 / 256) _, Lib.len8_of (x / 4294967296 / 256) (by omega) (by omega)]
      have e : (x / 4294967296 / 256).toNat = x.toNat / 1099511627776 := by omega
      have l := Lib.bitLen_le8' (x / 4294967296 / 256) (by omega) (by omega)
      have s := Lib.bitLen_shift40 x.toNat (by omega) (by omega)
      rw [e] at l ⊢
      exact bits_Len64.wrap_add 40 _ _ (by decide) l s)
   | (rw [bits_Len64.len8_get (x / 4294967296) _, Lib.len8_of (x / 4294967296) (by omega) (by omega)]
      have e : (x / 4294967296).toNat = x.toNat / 4294967296 := by omega
      have l := Lib.bitLen_le8' (x / 4294967296) (by omega) (by omega)
      have s := Lib.bitLen_shift32 x.toNat (by omega) (by omega)
      rw [e] at l ⊢
      exact bits_Len64.wrap_add 32 _ _ (by decide) l s)
   | (rw [bits_Len64.len8_get (x / 65536 / 256) _, Lib.len8_of (x / 65536 / 256) (by omega) (by omega)]
      have e : (x / 65536 / 256).toNat = x.toNat / 16777216 := by omega
      have l := Lib.bitLen_le8' (x / 65536 / 256) (by omega) (by omega)
      have s := Lib.bitLen_shift24 x.toNat (by omega) (by omega)
      rw [e] at l ⊢
      exact bits_Len64.wrap_add 24 _ _ (by decide) l s)
   | (rw [bits_Len64.len8_get (x / 65536) _, Lib.len8_of (x / 65536) (by omega) (by omega)]
      have e : (x / 65536).toNat = x.toNat / 65536 := by omega
      have l := Lib.bitLen_le8' (x / 65536) (by omega) (by omega)
      have s := Lib.bitLen_shift16 x.toNat (by omega) (by omega)
      rw [e] at l ⊢
      exact bits_Len64.wrap_add 16 _ _ (by decide) l s)
   | (rw [bits_Len64.len8_get (x / 256) _, Lib.len8_of (x / 256) (by omega) (by omega)]
      have e : (x / 256).toNat = x.toNat / 256 := by omega
      have l := Lib.bitLen_le8' (x / 256) (by omega) (by omega)
      have s := Lib.bitLen_shift8 x.toNat (by omega) (by omega)
      rw [e] at l ⊢
      exact bits_Len64.wrap_add 8 _ _ (by decide) l s)
   | (rw [bits_Len64.len8_get (x) _, Lib.len8_of (x) (by omega) (by omega)]
      have e : (x).toNat = x.toNat := by omega
      have l := Lib.bitLen_le8' (x) (by omega) (by omega)
      rw [e] at l ⊢
      first | exact bits_Len64.wrap_wrap _ l | exact bits_Len64.wrap_add 0 _ _ (by decide) l (by omega) | exact bits_Len64.wrap_one _ l)
def leb_Size.f (a0 : Int) : Option (Int) := (bits_Len64.f a0).bind fun t111 => (some (mx 1 (wrap64 (Int.tdiv (wrap64 ((wrap64 (t111 + 7)) - 1)) 7))))
theorem leb_Size.calls (a0 : Int) (r : Int) (w : World) (h : leb_Size.f a0 = some r) :
    Calls Tryd.prog 52 #[.int .u64 a0] w fun e w' => e = .returned (.int .i64 r) ∧ Below w.heap.size w w' := by
 have HB := aM_ (Below.refl w.heap.size w); have H : ((bits_Len64.f a0).bind fun t111 => (some (mx 1 (wrap64 (Int.tdiv (wrap64 ((wrap64 (t111 + 7)) - 1)) 7))))) = some r := h; clear h; replace H := Option.bind_eq_some_iff.mp H; obtain ⟨t111, A20, H⟩ := H; replace H : (some (mx 1 (wrap64 (Int.tdiv (wrap64 ((wrap64 (t111 + 7)) - 1)) 7)))) = some r := H; have A2 := aM_ A20; clear A20; obtain ⟨ji3, hji3⟩ : ∃ j_ : Int, (mx 1 (wrap64 (Int.tdiv (wrap64 ((wrap64 (t111 + 7)) - 1)) 7))) = j_ := ⟨_, rfl⟩; (replace H : (some ji3) = some r := by first | (rw [hji3] at H; exact H) | (simp only [hji3] at H ⊢; exact H)); (try rw [hji3] at A2); (try (have hji3l : 1 ≤ ji3 := by (rw [← hji3]; unfold mx; (repeat' split) <;> omega))); (try (have hji3m : 0 ≤ ji3 := by omega)); have hji3_ : (if 1 < (wrap64 (Int.tdiv (wrap64 ((wrap64 (t111 + 7)) - 1)) 7)) then (wrap64 (Int.tdiv (wrap64 ((wrap64 (t111 + 7)) - 1)) 7)) else 1) = ji3 := hji3; (try (have hji3_n := hji3_; simp only [Int.ofNat_lt] at hji3_n)); obtain rfl := oJ_ H; simp only [oI_, pI_] at H; obtain ⟨rfl⟩ := H; (go_enter Tryd.func52, Tryd.ntmps52); (go_wp2_with (first | ((with_reducible refine gate_callee (f := 60) rfl ?_); refine goesL_ (some 4) rfl rfl Tryd.func60 (by kernel_rfl) rfl #[.int .u64 a0] rfl (by (try simp only [mA_, mC_, mN_]); first | done | rfl | (simp only [lD_, lT_]; rfl)) ?_; (with_reducible refine (bits_Len64.calls a0 t111 _ A2.out).mono ?_); rintro e w' ⟨rfl, ⟨nd, rfl⟩⟩; refine ⟨_, rfl, ?_⟩))); go_ret; (exact ⟨by first | rfl | (simp [errW_none, errW_some] <;> rfl) | (simp only [← hji3]; first | rfl | (simp [errW_none, errW_some] <;> rfl)) | (simp [*, errW_none, errW_some] <;> rfl), by exact bZ0_ HB.out⟩)
def leb_Put.l0 : Nat → Int → List Int → Int → Int → Option (List Int)
  | 0, _, _, _, _ => none
  | k + 1, x0, x3, x9, x10 => if x10 < x9 then (if 0 ≤ (wrap64 (7 * x10)) then (if 0 ≤ x10 then (if x10 < (x3.length : Int) then (leb_Put.l0 k x0 (x3.set (x10 : Int).toNat (Go.bits .or .u8 ((shr .u64 x0 (wrap64 (7 * x10))) % 256) 128)) x9 (wrap64 (x10 + 1))) else (none)) else (none)) else (none)) else (if 0 ≤ (wrap64 ((x3.length : Int) - 1)) then (if (wrap64 ((x3.length : Int) - 1)) < (x3.length : Int) then (some (x3.set ((wrap64 ((x3.length : Int) - 1)) : Int).toNat (Go.bits .andNot .u8 (rd x3 (wrap64 ((x3.length : Int) - 1))) 128))) else (none)) else (none))
def leb_Put.f (k : Nat) (a0 : Int) : Option (List Int) := (leb_Size.f a0).bind fun t112 => (if 0 ≤ t112 then (if (t112 : Int).toNat ≤ 281474976710656 then ((some (List.replicate (t112 : Int).toNat 0 : List Int)).bind fun y113 => (leb_Put.l0 k a0 y113 (y113.length : Int) 0)) else (none)) else (none))
theorem leb_Put.mono_l : ∀ k, (∀ y0 y1 y2 y3, LeO (leb_Put.l0 k y0 y1 y2 y3) (leb_Put.l0 (k + 1) y0 y1 y2 y3))
  | 0 => fun _ _ _ _ r h => by simp [leb_Put.l0] at h
  | k + 1 => by
    have ih0 := leb_Put.mono_l k
    · intro y0 y1 y2 y3
      unfold leb_Put.l0
      repeat' first
      | (with_reducible exact ih0 _ _ _ _)
      | (with_reducible exact LeO.refl _)
      | (with_reducible exact LeO.none _)
      | (with_reducible refine LeO.ite ?_ ?_)
      | (with_reducible refine LeO.bind ?_ (fun _ => ?_))
      | exact ih0 _ _ _ _
      | exact LeO.none _
      | refine LeO.ite ?_ ?_
      | refine LeO.bind ?_ (fun _ => ?_)
theorem leb_Put.mono : ∀ a0 k, LeO (leb_Put.f k a0) (leb_Put.f (k + 1) a0) := by
 intro a0 k; have ih0 := leb_Put.mono_l k; unfold leb_Put.f
 repeat' first
     | (with_reducible exact ih0 _ _ _ _)
     | (with_reducible exact LeO.refl _)
     | (with_reducible exact LeO.none _)
     | (with_reducible refine LeO.ite ?_ ?_)
     | (with_reducible refine LeO.bind ?_ (fun _ => ?_))
     | exact ih0 _ _ _ _
     | exact LeO.none _
     | refine LeO.ite ?_ ?_
     | refine LeO.bind ?_ (fun _ => ?_)
theorem leb_Put.calls (k : Nat) (a0 : Int) (r : List Int) (w : World) (h : leb_Put.f k a0 = some r) :
    Calls Tryd.prog 44 #[.int .u64 a0] w fun e w' => ∃ v0_ : Value, e = .returned (v0_) ∧ Kd.R (Kd.int .u8) 5 w' w.heap.size (fun _ => True) v0_ r ∧ Below w.heap.size w w' := by
 have HB := aM_ (Below.refl w.heap.size w); have H : ((leb_Size.f a0).bind fun t112 => (if 0 ≤ t112 then (if (t112 : Int).toNat ≤ 281474976710656 then ((some (List.replicate (t112 : Int).toNat 0 : List Int)).bind fun y113 => (leb_Put.l0 k a0 y113 (y113.length : Int) 0)) else (none)) else (none))) = some r := h; clear h; replace H := Option.bind_eq_some_iff.mp H; obtain ⟨t112, A20, H⟩ := H; replace H : (if 0 ≤ t112 then (if (t112 : Int).toNat ≤ 281474976710656 then ((some (List.replicate (t112 : Int).toNat 0 : List Int)).bind fun y113 => (leb_Put.l0 k a0 y113 (y113.length : Int) 0)) else (none)) else (none)) = some r := H; have A2 := aM_ A20; clear A20; (by_cases c3 : 0 ≤ t112)
 · rw [if_pos c3] at H
   have c3b0 := eq_true c3; have c3b1 : decide (0 ≤ t112) = true := dT_ c3; clear c3; (by_cases c4 : (t112 : Int).toNat ≤ 281474976710656)
   · rw [if_pos c4] at H
     have c4b0 := eq_true c4; have c4b1 : decide ((t112 : Int).toNat ≤ 281474976710656) = true := dT_ c4; clear c4; obtain ⟨y113, hy113⟩ : ∃ y_ : List Int, y_ = (List.replicate (t112 : Int).toNat 0) := ⟨_, rfl⟩; (replace H : (leb_Put.l0 k a0 y113 (y113.length : Int) 0) = some r := yZ_ H hy113); have Ny113 := aM_ hy113; clear hy113; have H' := aM_ H; clear H; (go_enter Tryd.func44, Tryd.ntmps44)
     go_wp2_with (first | ((with_reducible refine gate_callee (f := 52) rfl ?_); refine goesL_ (some 6) rfl rfl Tryd.func52 (by kernel_rfl) rfl #[.int .u64 a0] rfl (by (try simp only [mA_, mC_, mN_]); first | done | rfl | (simp only [lD_, lT_]; rfl)) ?_; (with_reducible refine (leb_Size.calls a0 t112 _ A2.out).mono ?_); rintro e w5 ⟨rfl, hb⟩; refine ⟨_, rfl, ?_⟩; have n0_ := aM_ (bT_ (bZ0_ HB.out) hb); clear HB; have HB := n0_; clear n0_; (try clear hb); (try clear hb2); (try clear hk); (try clear hi)) | ((with_reducible refine gate_dst (N := 7) rfl ?_); refine Kd.R_make (Kd.int .u8) _ 5 rfl (N := 7) rfl 45 _ _ rfl t112 rfl rfl Tryd.underlying45 (.int .u8 0) 1 info5 rfl (by decide) (by omega) 0 (ok := fun _ => True) (okp := fun _ => True) rfl (fun _ hk => hk) trivial (oD_ (by assumption)) (Nat.le_trans (Nat.mul_le_mul_right _ (oD_ (by assumption) : t112.toNat ≤ 281474976710656)) (by omega)) (Below.refl _ _) (Nat.le_refl _) ?_; intro v114 w6 ho7 hb hg_ hnew_; clear hg_ hnew_; (first | rw [← Ny113.out] at ho7 | (simp only [Int.reduceToNat] at ho7; rw [← Ny113.out] at ho7)); have n0_ := aM_ (Kd.R_lower ho7 (bZ_ (bZ0_ HB.out))); have n1_ := aM_ (bT_ (bZ0_ HB.out) hb); clear HB; have HO115 := n0_; have HB := n1_; clear n0_ n1_; clear hb ho7; obtain ⟨Ao8, co8, eo8⟩ := Kd.R_slice HO115.out; subst eo8))
     (go_loopg [10] k (fun kq v10 w' => ∃ (x3_1 : List Int) (x10_1 : Int), v10 = .int .i64 x10_1 ∧ Aside0 (leb_Put.l0 kq a0 x3_1 (y113.length : Int) x10_1 = some r) ∧ Aside0 (kq ≤ k) ∧ Aside0 (Kd.R (Kd.int .u8) 5 w' w.heap.size (fun _ => True) (.slice Ao8 y113.length co8) x3_1) ∧ Aside0 (Below w.heap.size w w')))
     case atStart => exact ⟨(y113), (0), (by first | rfl | (simp; done) | (simp [*]; done)), H', ⟨Nat.le_refl _⟩, ⟨rZ_ HO115.out⟩, ⟨bZ0_ HB.out⟩⟩
     case round =>
      clear H'; (try clear p2); (try clear c3); (try clear c3b0); (try clear c3b1); (try clear c4); (try clear c4b0); (try clear c4b1); (try clear c5); obtain ⟨x3_1, x10_1, rfl, HA, HK1, HO_3, HB⟩ := hrel; have hl3_1 := (rR_ HO_3.out).1; rw [hl3_1] at HO_3; (try simp only [hl3_1])
      cases gk with
      | zero => exact absurd HA.out (by simp [leb_Put.l0])
      | succ k1 =>
       have H := HA.out; clear HA; simp only [leb_Put.l0] at H; (by_cases c9 : x10_1 < (y113.length : Int))
       · rw [if_pos c9] at H
         have c9b0 : decide (x10_1 < (y113.length : Int)) = true := dT_ c9; (try (have c9b0n := c9b0; simp only [hl3_1] at c9b0n)); clear c9; obtain ⟨ji10, hji10⟩ : ∃ j_ : Int, (wrap64 (7 * x10_1)) = j_ := ⟨_, rfl⟩; (replace H : (if 0 ≤ (ji10) then (if 0 ≤ x10_1 then (if x10_1 < (x3_1.length : Int) then (leb_Put.l0 k1 a0 (x3_1.set (x10_1 : Int).toNat (Go.bits .or .u8 ((shr .u64 a0 (ji10)) % 256) 128)) (y113.length : Int) (wrap64 (x10_1 + 1))) else (none)) else (none)) else (none)) = some r := by first | (rw [hji10] at H; exact H) | (simp only [hji10] at H ⊢; exact H)); have hji10w : (IntKind.i64.wrap (7 * x10_1)) = ji10 := (i64_w _).trans hji10; (by_cases c11 : 0 ≤ (ji10))
         · rw [if_pos c11] at H
           have c11b0 := eq_true c11; have c11b1 : decide (0 ≤ (ji10)) = true := dT_ c11; clear c11; obtain ⟨ji12, hji12⟩ : ∃ j_ : Int, (shr .u64 a0 (ji10)) = j_ := ⟨_, rfl⟩; (replace H : (if 0 ≤ x10_1 then (if x10_1 < (x3_1.length : Int) then (leb_Put.l0 k1 a0 (x3_1.set (x10_1 : Int).toNat (Go.bits .or .u8 ((ji12) % 256) 128)) (y113.length : Int) (wrap64 (x10_1 + 1))) else (none)) else (none)) = some r := by first | (rw [hji12] at H; exact H) | (simp only [hji12] at H ⊢; exact H)); have hji12_ : (a0 / 2 ^ min (ji10).toNat 64) = ji12 := hji12; have hji12z : (ji10) ≤ 64 → (a0 / 2 ^ (ji10).toNat) = ji12 := shr_small hji12; (by_cases c13 : 0 ≤ x10_1)
           · rw [if_pos c13] at H
             have c13b0 : decide (0 ≤ x10_1) = true := dT_ c13; clear c13; (by_cases c14 : x10_1 < (x3_1.length : Int))
             · rw [if_pos c14] at H
               have c14b0 : decide (x10_1 < (x3_1.length : Int)) = true := dT_ c14; (try (have c14b0n := c14b0; simp only [hl3_1] at c14b0n)); clear c14; obtain ⟨y116, hy116⟩ : ∃ y_ : List Int, y_ = (x3_1.set (x10_1 : Int).toNat (Go.bits .or .u8 ((ji12) % 256) 128)) := ⟨_, rfl⟩; (replace H : (leb_Put.l0 k1 a0 y116 (y113.length : Int) (wrap64 (x10_1 + 1))) = some r := yZ_ H hy116); have Ny116 := aM_ hy116; clear hy116; have H' := aM_ H; clear H; have p15 : 0 ≤ (x10_1 : Int) := oD_ (by assumption); have q15 : (x10_1 : Int) < ((x3_1.length : Int) : Int) := oD_ (by assumption); obtain ⟨go15, co15, eo15, gb15, gl15, cl15, HG15⟩ := Kd.R_form HO_3.out (by omega); (first | cases eo15 | (injection eo15 with ea_ en_ ec_; (first | subst ea_ | (injection ea_ with ea_; subst ea_)); subst ec_; clear en_)); have GB15 := aM_ gb15; have GG15 := aM_ HG15; clear gb15 gl15 HG15; obtain ⟨hx15_0, hf15_0⟩ := Kd.R_celln 0 HO_3.out (x10_1 : Int) p15 q15; replace p15 := eq_true p15; replace q15 := eq_true q15; have HP16 := Kd.R_putg HO_3.out (x10_1 : Int) (Go.bits .or .u8 ((ji12) % 256) 128); (go_wp2_with (first | ((with_reducible refine gate_store (t := 5) (p := 21) rfl ?_); refine store_event (t := 5) (p := 21) (v := ?vo_w17) (w1 := (wr.setCell ⟨go15, (x10_1 : Int).toNat, none⟩ (.int .u8 (Go.bits .or .u8 ((ji12) % 256) 128)))) ?hg ?ho ?hn ?hr ?_; (case ho => rfl); (case hg => rfl); (case hn => rfl); (case hr => first | (go_simp; done) | (go_simp; rfl)); intro w17 hw; have hg : wr.grownBy w17 (some go15) := (by rw [hw]; exact HP16.2); have hp_ : Kd.R (Kd.int .u8) 5 w17 w.heap.size (fun _ => True) (.slice (some ⟨go15, 0, none⟩) x3_1.length co8) y116 := (by rw [hw, Ny116.out]; exact HP16.1); clear HP16; have n0_ := aM_ (hp_); have n1_ := aM_ ((by rw [hw]; exact bS_ (HB.out) GB15.out : Below w.heap.size w w17)); clear HO_3; clear HB; have HO_3 := n0_; have HB := n1_; clear n0_ n1_; clear hg hw hp_))); (try simp only [← hl3_1]); (go_roundg k1)
               case measure => have := HK1.out; omega
               case rel => exact ⟨(y116), (wrap64 (x10_1 + 1)), (by first | rfl | (simp; done) | (simp [*]; done)), H', ⟨by have := HK1.out; omega⟩, ⟨by (try simp only [hl3_1]); exact rZ_ HO_3.out⟩, ⟨bZ0_ HB.out⟩⟩
             (· rw [if_neg c14] at H; exact absurd H (by simp))
           (· rw [if_neg c13] at H; exact absurd H (by simp))
         (· rw [if_neg c11] at H; exact absurd H (by simp))
       · rw [if_neg c9] at H
         have c9b0 : decide (x10_1 < (y113.length : Int)) = false := decide_eq_false c9; (try (have c9b0n := c9b0; simp only [hl3_1] at c9b0n)); clear c9; obtain ⟨ji18, hji18⟩ : ∃ j_ : Int, (wrap64 ((x3_1.length : Int) - 1)) = j_ := ⟨_, rfl⟩; (replace H : (if 0 ≤ (ji18) then (if (ji18) < (x3_1.length : Int) then (some (x3_1.set ((ji18) : Int).toNat (Go.bits .andNot .u8 (rd x3_1 (ji18)) 128))) else (none)) else (none)) = some r := by first | (rw [hji18] at H; exact H) | (simp only [hji18] at H ⊢; exact H)); have hji18w : (IntKind.i64.wrap ((x3_1.length : Int) - 1)) = ji18 := (i64_w _).trans hji18; (by_cases c19 : 0 ≤ (ji18))
         · rw [if_pos c19] at H
           have c19b0 : decide (0 ≤ (ji18)) = true := dT_ c19; clear c19; (by_cases c20 : (ji18) < (x3_1.length : Int)); (· rw [if_pos c20] at H; have c20b0 : decide ((ji18) < (x3_1.length : Int)) = true := dT_ c20; (try (have c20b0n := c20b0; simp only [hl3_1] at c20b0n)); clear c20; obtain ⟨y118, hy118⟩ : ∃ y_ : List Int, y_ = (x3_1.set ((ji18) : Int).toNat (Go.bits .andNot .u8 (rd x3_1 (ji18)) 128)) := ⟨_, rfl⟩; (replace H : (some y118) = some r := yZ_ H hy118); have Ny118 := aM_ hy118; clear hy118; obtain rfl := oJ_ H; simp only [oI_, pI_] at H; obtain ⟨rfl⟩ := H; have p117 : 0 ≤ ((ji18) : Int) := oD_ (by assumption); have q117 : (ji18) < (x3_1.length : Int) := oD_ (by assumption); obtain ⟨ad117, e117, hx117_0⟩ := Kd.at_int (rR_ HO_3.out).2.2 (ji18) p117 q117; (cases e117); replace p117 := eq_true p117; replace q117 := eq_true q117; have p21 : 0 ≤ ((ji18) : Int) := oD_ (by assumption); have q21 : ((ji18) : Int) < ((x3_1.length : Int) : Int) := oD_ (by assumption); obtain ⟨go21, co21, eo21, gb21, gl21, cl21, HG21⟩ := Kd.R_form HO_3.out (by omega); (first | cases eo21 | (injection eo21 with ea_ en_ ec_; (first | subst ea_ | (injection ea_ with ea_; subst ea_)); subst ec_; clear en_)); have GB21 := aM_ gb21; have GG21 := aM_ HG21; clear gb21 gl21 HG21; (first | simp only [add_plain] at hx117_0 | skip); obtain ⟨hx21_0, hf21_0⟩ := Kd.R_celln 0 HO_3.out ((ji18) : Int) p21 q21; replace p21 := eq_true p21; replace q21 := eq_true q21; have HP22 := Kd.R_putg HO_3.out ((ji18) : Int) (Go.bits .andNot .u8 (rd x3_1 (ji18)) 128); (go_wp2_with (first | ((with_reducible refine gate_store (t := 5) (p := 30) rfl ?_); refine store_event (t := 5) (p := 30) (v := ?vo_w23) (w1 := (wr.setCell ⟨go21, ((ji18) : Int).toNat, none⟩ (.int .u8 (Go.bits .andNot .u8 (rd x3_1 (ji18)) 128)))) ?hg ?ho ?hn ?hr ?_; (case ho => rfl); (case hg => rfl); (case hn => rfl); (case hr => first | (go_simp; done) | (go_simp; rfl)); intro w23 hw; have hg : wr.grownBy w23 (some go21) := (by rw [hw]; exact HP22.2); have hp_ : Kd.R (Kd.int .u8) 5 w23 w.heap.size (fun _ => True) (.slice (some ⟨go21, 0, none⟩) x3_1.length co8) y118 := (by rw [hw, Ny118.out]; exact HP22.1); clear HP22; have n0_ := aM_ (hp_); have n1_ := aM_ ((by rw [hw]; exact bS_ (HB.out) GB21.out : Below w.heap.size w w23)); clear HO_3; clear HB; have HO_3 := n0_; have HB := n1_; clear n0_ n1_; clear hg hw hp_))); go_ret; (exact ⟨_, by first | rfl | (simp [errW_none, errW_some] <;> rfl) | (simp only [← hji18]; first | rfl | (simp [errW_none, errW_some] <;> rfl)) | (simp [*, errW_none, errW_some] <;> rfl), by exact rZ_ HO_3.out, by exact bZ0_ HB.out⟩))
           (· rw [if_neg c20] at H; exact absurd H (by simp))
         (· rw [if_neg c19] at H; exact absurd H (by simp))
   (· rw [if_neg c4] at H; exact absurd H (by simp))
 (· rw [if_neg c3] at H; exact absurd H (by simp))
def leb_Bytes.f (k : Nat) (l0 : List Int) : Option (List Int) := (leb_Put.f k (IntKind.u64.wrap ((l0.length : Int)))).bind fun t119 => (if t119.length + l0.length < 140737488355328 then (some (t119 ++ l0)) else (none))
theorem leb_Bytes.mono : ∀ a0 k, LeO (leb_Bytes.f k a0) (leb_Bytes.f (k + 1) a0) := by
 intro a0 k; unfold leb_Bytes.f
 repeat' first
     | (with_reducible exact leb_Put.mono _ _)
     | (with_reducible exact LeO.refl _)
     | (with_reducible exact LeO.none _)
     | (with_reducible refine LeO.ite ?_ ?_)
     | (with_reducible refine LeO.bind ?_ (fun _ => ?_))
     | exact LeO.none _
     | refine LeO.ite ?_ ?_
     | refine LeO.bind ?_ (fun _ => ?_)
theorem leb_Bytes.calls (k : Nat) (A0 : Option Addr) (c0 : Nat) (l0 : List Int) (r : List Int) (w : World) (hr0 : Kd.C (Kd.int .u8) w A0 l0.length l0) (hc0 : l0.length ≤ c0) (h : leb_Bytes.f k l0 = some r) :
    Calls Tryd.prog 45 #[.slice A0 l0.length c0] w fun e w' => ∃ v0_ : Value, e = .returned (v0_) ∧ Kd.R (Kd.int .u8) 5 w' w.heap.size (fun _ => True) v0_ r ∧ Below w.heap.size w w' := by
 have HR0 := aM_ hr0; have HC0 := aM_ hc0; clear hr0 hc0; have HB := aM_ (Below.refl w.heap.size w); have H : ((leb_Put.f k (IntKind.u64.wrap ((l0.length : Int)))).bind fun t119 => (if t119.length + l0.length < 140737488355328 then (some (t119 ++ l0)) else (none))) = some r := h; clear h; replace H := Option.bind_eq_some_iff.mp H; obtain ⟨t119, A20, H⟩ := H; replace H : (if t119.length + l0.length < 140737488355328 then (some (t119 ++ l0)) else (none)) = some r := H; have A2 := aM_ A20; clear A20; (by_cases c3 : t119.length + l0.length < 140737488355328)
 · rw [if_pos c3] at H
   have LMc3 := aM_ c3; clear c3; obtain ⟨y122, hy122⟩ : ∃ y_ : List Int, y_ = (t119 ++ l0) := ⟨_, rfl⟩; (replace H : (some y122) = some r := yZ_ H hy122); have Ny122 := aM_ hy122; clear hy122; obtain rfl := oJ_ H; simp only [oI_, pI_] at H; obtain ⟨rfl⟩ := H; (go_enter Tryd.func45, Tryd.ntmps45)
   go_wp2_with (first | ((with_reducible refine gate_callee (f := 44) rfl ?_); refine goesL_ (some 6) rfl rfl Tryd.func44 (by kernel_rfl) rfl #[.int .u64 (IntKind.u64.wrap ((l0.length : Int)))] rfl (by (try simp only [mA_, mC_, mN_]); first | done | rfl | (simp only [lD_, lT_]; rfl)) ?_; (with_reducible refine (leb_Put.calls k (IntKind.u64.wrap ((l0.length : Int))) t119 _ A2.out).mono ?_); rintro e w4 ⟨v120, rfl, ho0, hb⟩; refine ⟨_, rfl, ?_⟩; have n0_ := aM_ (Kd.R_lower ho0 (bZ_ (bZ0_ HB.out))); have n1_ := aM_ (bT_ (bZ0_ HB.out) hb); clear HB; have HO121 := n0_; have HB := n1_; clear n0_ n1_; (try clear hb); (try clear hb2); (try clear hk); (try clear hi); (try clear ho0)) | ((with_reducible refine gate_builtin (b := .append) (xs := #[.tmp 6, .tmp 7]) rfl ?_); at_builtin; refine Kd.R_append_rows (Kd.int .u8) (w0 := w) w.heap.size rfl (.tmp 6) (.tmp 7) 45 5 (.int .u8 0) 1 rfl Tryd.underlying45 info5 rfl (by decide) (by omega) v120 t119 l0 _ _ _ (fun _ => True) (fun _ => False) rfl rfl ?aO ?aR (fun _ _ h => h) (fun _ h => h.elim) ?aF ?aB ?aS ?aL ?_; (case aR => repeat (first | exact (Kd.C_below HR0.out HB.out) | (with_reducible refine Kd.C_alloc ?_ _) | (with_reducible refine Kd.C_drewN ?_ _) | (with_reducible refine Kd.C_drew ?_))); (case aB => exact (bZ0_ HB.out)); (case aF => exact (fun _ _ => trivial)); (case aO => exact (rZ_ HO121.out)); (case aS => exact (bZ_ (bZ0_ HB.out))); (case aL => have := LMc3.out; omega); intro v123 w5 ho hb hg hat; rw [← Ny122.out] at ho; have n0_ := aM_ (hb); have n1_ := aM_ (ho); clear HB; clear HO121; have HB := n0_; have HO124 := n1_; clear n0_ n1_; clear ho hb hg hat))
   go_ret; (exact ⟨_, by first | rfl | (simp [errW_none, errW_some] <;> rfl) | (simp [*, errW_none, errW_some] <;> rfl), by exact rZ_ HO124.out, by exact bZ0_ HB.out⟩)
 (· rw [if_neg c3] at H; exact absurd H (by simp))
end Go.Proofs.YtigbmfogfgbmfaaDoor.Fn
