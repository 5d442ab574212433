import Derived.Test.YtoobchhfcobbpaaDoorHx0
import Derived.Test.YtoobchhfcobbpaaDoorHx2
import Derived.Test.YtoobchhfcobbpaaDoorHx3
namespace Go.Proofs.YtoobchhfcobbpaaDoor.Fn
open Go.RowKit Go.Proofs.YtoobchhfcobbpaaDoorW.PrintWords Go.Proofs.YtoobchhfcobbpaaDoorW.PrintLast Go.Proofs.YtoobchhfcobbpaaDoorW.PrintMore
attribute [local go_sem] max2_int min2_int max_two min_two max_three min_three max_four min_four
set_option linter.unusedVariables false
set_option linter.unusedSimpArgs false
def api_Key_35.l0 : Nat → List ByteArray → ByteArray → Int → Int → Option (Int)
 | 0, _, _, _, _ => none
 | k + 1, x0, x1, x7, x8 => if x8 < x7 then (if 0 ≤ x8 then (if x8 < (x0.length : Int) then (if x1.toList = (rdOf ByteArray.empty x0 x8).toList then (some x8) else (api_Key_35.l0 k x0 x1 x7 (wrap64 (x8 + 1)))) else (none)) else (none)) else (some (-1))
def api_Key_35.f (k : Nat) (l0 : List ByteArray) (a1 : ByteArray) : Option (Int) := api_Key_35.l0 k l0 a1 (l0.length : Int) 0
theorem api_Key_35.mono_l : ∀ k, (∀ y0 y1 y2 y3, LeO (api_Key_35.l0 k y0 y1 y2 y3) (api_Key_35.l0 (k + 1) y0 y1 y2 y3))
 | 0 => fun _ _ _ _ r h => by simp [api_Key_35.l0] at h
 | k + 1 => by
  have ih0 := api_Key_35.mono_l k
  · intro y0 y1 y2 y3
    unfold api_Key_35.l0
    repeat' first
    | (with_reducible exact ih0 _ _ _ _)
    | (with_reducible exact LeO.refl _)
    | (with_reducible exact LeO.none _)
    | (with_reducible refine LeO.ite ?_ ?_)
    | (with_reducible refine LeO.bind ?_ (fun _ => ?_))
    | exact ih0 _ _ _ _
    | exact LeO.none _
    | refine LeO.ite ?_ ?_
    | refine LeO.bind ?_ (fun _ => ?_)
theorem api_Key_35.mono : ∀ a0 a1 k, LeO (api_Key_35.f k a0 a1) (api_Key_35.f (k + 1) a0 a1) := by
 intro a0 a1 k; have ih0 := api_Key_35.mono_l k; unfold api_Key_35.f
 repeat' first
  | (with_reducible exact ih0 _ _ _ _)
  | (with_reducible exact LeO.refl _)
  | (with_reducible exact LeO.none _)
  | (with_reducible refine LeO.ite ?_ ?_)
  | (with_reducible refine LeO.bind ?_ (fun _ => ?_))
  | exact ih0 _ _ _ _
  | exact LeO.none _
  | refine LeO.ite ?_ ?_
  | refine LeO.bind ?_ (fun _ => ?_)
set_option maxHeartbeats 8000000 in
set_option maxRecDepth 100000 in
theorem api_Key_35.calls (k : Nat) (A0 : Option Addr) (c0 : Nat) (l0 : List ByteArray) (a1 : ByteArray) (r : Int) (w : World) (hr0 : Kd.C Kd.string w A0 l0.length l0) (hc0 : l0.length ≤ c0) (h : api_Key_35.f k l0 a1 = some r) :
 Calls Tryd.prog 35 #[.slice A0 l0.length c0, .string a1] w fun e w' => e = .returned (.int .i64 r) ∧ Drawn0 w w' := by
 have HR0 := aM_ hr0; have HC0 := aM_ hc0; clear hr0 hc0; have H : (api_Key_35.l0 k l0 a1 (l0.length : Int) 0) = some r := h; clear h; have H' := aM_ H; clear H; (go_enter Tryd.func35, Tryd.ntmps35); go_wp2; (go_loopg [8] k (fun kq v8 w' => ∃ (x8_1 : Int), v8 = .int .i64 x8_1 ∧ Aside0 (api_Key_35.l0 kq l0 a1 (l0.length : Int) x8_1 = some r) ∧ Aside0 (kq ≤ k) ∧ Drawn0 w w'))
 case atStart => exact ⟨(0), (by first | rfl | (simp; done) | (simp [*]; done)), H', ⟨Nat.le_refl _⟩, by repeat (first | exact Drawn0.refl _ | apply Drawn0.step)⟩
 case round =>
  clear H'; (try clear p2); obtain ⟨x8_1, rfl, HA, HK1, ⟨m1, rfl⟩⟩ := hrel
  cases gk with
  | zero => exact absurd HA.out (by simp [api_Key_35.l0])
  | succ k1 =>
   have H := HA.out; clear HA; simp only [api_Key_35.l0] at H; (by_cases c3 : x8_1 < (l0.length : Int))
   · rw [if_pos c3] at H
     have c3b0 : decide (x8_1 < (l0.length : Int)) = true := decide_eq_true c3; clear c3; (by_cases c4 : 0 ≤ x8_1)
     · rw [if_pos c4] at H
       have c4b0 : decide (0 ≤ x8_1) = true := decide_eq_true c4; clear c4; (by_cases c5 : x8_1 < (l0.length : Int))
       · rw [if_pos c5] at H
         have c5b0 : decide (x8_1 < (l0.length : Int)) = true := decide_eq_true c5; clear c5; (by_cases c6 : a1.toList = (rdOf ByteArray.empty l0 x8_1).toList); (· rw [if_pos c6] at H; have c6b0 : (a1.toList == (rdOf ByteArray.empty l0 x8_1).toList) = true := beq_iff_eq.mpr c6; have c6b1 : (a1.toList != (rdOf ByteArray.empty l0 x8_1).toList) = false := bne_eq_false_iff_eq.mpr c6; clear c6; obtain rfl := Option.some.inj H; simp only [Option.some.injEq, Prod.mk.injEq] at H; obtain ⟨rfl⟩ := H; have p116 : 0 ≤ (x8_1 : Int) := of_decide_eq_true (by assumption); have q116 : x8_1 < (l0.length : Int) := of_decide_eq_true (by assumption); obtain ⟨ad116, e116, hx116_0⟩ := Kd.at_string HR0.out x8_1 p116 q116; (cases e116); replace p116 := eq_true p116; replace q116 := eq_true q116; go_wp2; go_ret; exact ⟨by first | rfl | (simp; done) | (simp [*]; done), by repeat (first | exact Drawn0.refl _ | apply Drawn0.step)⟩)
         · rw [if_neg c6] at H
           have c6b0 : (a1.toList == (rdOf ByteArray.empty l0 x8_1).toList) = false := beq_eq_false_iff_ne.mpr c6; have c6b1 : (a1.toList != (rdOf ByteArray.empty l0 x8_1).toList) = true := bne_iff_ne.mpr c6; have H' := aM_ H; clear H; have p116 : 0 ≤ (x8_1 : Int) := of_decide_eq_true (by assumption); have q116 : x8_1 < (l0.length : Int) := of_decide_eq_true (by assumption); obtain ⟨ad116, e116, hx116_0⟩ := Kd.at_string HR0.out x8_1 p116 q116; (cases e116); replace p116 := eq_true p116; replace q116 := eq_true q116; go_wp2; (go_roundg k1)
           case measure => have := HK1.out; omega
           case rel => exact ⟨(wrap64 (x8_1 + 1)), (by first | rfl | (simp; done) | (simp [*]; done)), H', ⟨by have := HK1.out; omega⟩, by repeat (first | exact Drawn0.refl _ | apply Drawn0.step)⟩
       (· rw [if_neg c5] at H; exact absurd H (by simp))
     (· rw [if_neg c4] at H; exact absurd H (by simp))
   (· rw [if_neg c3] at H; have c3b0 : decide (x8_1 < (l0.length : Int)) = false := decide_eq_false c3; clear c3; obtain rfl := Option.some.inj H; simp only [Option.some.injEq, Prod.mk.injEq] at H; obtain ⟨rfl⟩ := H; go_wp2; go_ret; exact ⟨by first | rfl | (simp; done) | (simp [*]; done), by repeat (first | exact Drawn0.refl _ | apply Drawn0.step)⟩)
def api_Key_21.f (k : Nat) (l0 : List ByteArray) (a1 : ByteArray) : Option (Bool) := (api_Key_35.f k l0 a1).bind fun t117 => (some (decide (t117 ≥ 0)))
theorem api_Key_21.mono : ∀ a0 a1 k, LeO (api_Key_21.f k a0 a1) (api_Key_21.f (k + 1) a0 a1) := by
 intro a0 a1 k; unfold api_Key_21.f
 repeat' first
  | (with_reducible exact api_Key_35.mono _ _ _)
  | (with_reducible exact LeO.refl _)
  | (with_reducible exact LeO.none _)
  | (with_reducible refine LeO.ite ?_ ?_)
  | (with_reducible refine LeO.bind ?_ (fun _ => ?_))
  | exact LeO.none _
  | refine LeO.ite ?_ ?_
  | refine LeO.bind ?_ (fun _ => ?_)
set_option maxHeartbeats 8000000 in
set_option maxRecDepth 100000 in
theorem api_Key_21.calls (k : Nat) (A0 : Option Addr) (c0 : Nat) (l0 : List ByteArray) (a1 : ByteArray) (r : Bool) (w : World) (hr0 : Kd.C Kd.string w A0 l0.length l0) (hc0 : l0.length ≤ c0) (h : api_Key_21.f k l0 a1 = some r) :
 Calls Tryd.prog 21 #[.slice A0 l0.length c0, .string a1] w fun e w' => e = .returned (.bool r) ∧ Drawn0 w w' := by
 have HR0 := aM_ hr0; have HC0 := aM_ hc0; clear hr0 hc0; have H : ((api_Key_35.f k l0 a1).bind fun t117 => (some (decide (t117 ≥ 0)))) = some r := h; clear h; replace H := Option.bind_eq_some_iff.mp H; obtain ⟨t117, A30, H⟩ := H; replace H : (some (decide (t117 ≥ 0))) = some r := H; have A3 := aM_ A30; clear A30; obtain rfl := Option.some.inj H; simp only [Option.some.injEq, Prod.mk.injEq] at H; obtain ⟨rfl⟩ := H; (go_enter Tryd.func21, Tryd.ntmps21); (go_wp2_with (first | ((with_reducible refine gate_callee (f := 35) rfl ?_); refine goesL_ (some 7) rfl rfl Tryd.func35 (by kernel_rfl) rfl #[.slice A0 l0.length c0, .string a1] rfl (by (try simp only [List.map_toArray, List.map_cons, List.map_nil]); first | done | rfl | (simp only [List.length_drop, List.length_take]; rfl)) ?_; (with_reducible refine (api_Key_35.calls k _ _ l0 a1 t117 _ ?side1 ?side2 A3.out).mono ?_); (case side1 => repeat (first | exact HR0.out | (with_reducible refine Kd.C_alloc ?_ _) | (with_reducible refine Kd.C_drewN ?_ _) | (with_reducible refine Kd.C_drew ?_))); (case side2 => exact HC0.out); rintro e w' ⟨rfl, ⟨nd, rfl⟩⟩; refine ⟨_, rfl, ?_⟩))); go_ret; exact ⟨by first | rfl | (simp; done) | (simp [*]; done), by repeat (first | exact Drawn0.refl _ | apply Drawn0.step)⟩
theorem key_Contains_ev (l : List ByteArray) (x : ByteArray) (hl : l.length ≤ 9223372036854775807) : Ev (fun k => api_Key_21.f k l x) (hasText l x) := by
 have h : Ev (fun k => api_Key_35.f k l x) (idxOf (isText x) l) := by
  refine find_loop (isText x) l (fun k i => api_Key_35.l0 k l x (l.length : Int) (i : Int)) (fun k i h => ?_) (fun k => ?_) l.length 0 (by omega) (fun j _ hj => by omega); (· simp only [api_Key_35.l0, isText, decide_eq_true_eq]; rw [if_pos (by omega), if_pos (by omega), if_pos (by omega), rdOf_at _ l i h, wrap_succ i l.length h hl]; (by_cases e : x.toList = l[i].toList); (· rw [if_pos e, if_pos e.symm]); (· rw [if_neg e, if_neg (fun h => e h.symm)])); (· simp only [api_Key_35.l0]; rw [if_neg (by omega)])
 refine Ev.congr (fun k => ?_) (Ev.bind h (f := fun _ t => some (decide (t ≥ 0))) ?_); (· rfl); (· rw [idxOf_ge]; exact Ev.now _)
theorem key_Contains (l : List ByteArray) (x : ByteArray) (A0 : Option Addr) (c0 : Nat) (w : World) (hr0 : Kd.C Kd.string w A0 l.length l) (hc0 : l.length ≤ c0) :
 Calls Tryd.prog 21 #[.slice A0 l.length c0, .string x] w fun e w' => e = .returned (.bool (hasText l x)) ∧ Below w.heap.size w w' := by
 obtain ⟨K, hK⟩ := key_Contains_ev l x hr0.2.1; exact (api_Key_21.calls K A0 c0 l x (hasText l x) w hr0 hc0 (hK K (Nat.le_refl _))).mono fun e w' h => ⟨h.1, h.2.below⟩
def packSum (l : List S36) (p : Int) : Int := l.foldl (fun s x => if x.f1 = p then wrap64 (s + x.f3) else s) 0
def isDirty (l : List S36) (seen : List ByteArray) (p u : Int) : Bool := (l.any fun x => decide (x.f1 = p) && !hasText seen x.f0) || decide (packSum l p < u)
def dirtyOf (l0 : List S36) (l1 : List ByteArray) (l2 l3 : List Int) : List Int := if isIndex l0 then ((l2.zip l3).filter fun z => isDirty l0 l1 z.1 z.2).map (·.1) else []
def sweep_Dirty.f (l0 : List S36) (l1 : List ByteArray) (l2 l3 : List Int) : Option (List Int) := if l0.length < 2932031007402 ∧ l2.length < 17592186044416 then some (dirtyOf l0 l1 l2 l3) else none
theorem packSum_snoc (l : List S36) (x : S36) (p : Int) : packSum (l ++ [x]) p = if x.f1 = p then wrap64 (packSum l p + x.f3) else packSum l p := by simp [packSum, List.foldl_append]
theorem dirty_take (l : List S36) (seen : List ByteArray) (p : Int) (j : Nat) (x : S36) (h : l[j]? = some x) :
 packSum (l.take (j + 1)) p = (if x.f1 = p then wrap64 (packSum (l.take j) p + x.f3) else packSum (l.take j) p) ∧
 (l.take (j + 1)).any (fun x => decide (x.f1 = p) && !hasText seen x.f0) = ((l.take j).any (fun x => decide (x.f1 = p) && !hasText seen x.f0) || (decide (x.f1 = p) && !hasText seen x.f0)) := by
 (have e : l.take (j + 1) = l.take j ++ [x] := by rw [List.take_add_one, h]; rfl); rw [e]; exact ⟨packSum_snoc _ _ _, by rw [List.any_append]; simp⟩
set_option maxHeartbeats 8000000 in
set_option maxRecDepth 100000 in
theorem sweep_Dirty_no (A0 : Option Addr) (c0 : Nat) (l0 : List S36) (v1 v2 v3 : Value) (w : World) (hr0 : Kd.C k36 w A0 l0.length l0) (hc0 : l0.length ≤ c0) (hl : l0.length < 2932031007402) (hx : isIndex l0 = false) :
 Calls Tryd.prog 7 #[.slice A0 l0.length c0, v1, v2, v3] w fun e w' => e = .returned (.slice none 0 0) ∧ Below w.heap.size w w' := by
 obtain ⟨K, hK⟩ := index_Check_ev l0 (by omega); have HX := aM_ (index_Check.calls K A0 c0 l0 false w hr0 hc0 ((hK K (Nat.le_refl _)).trans (congrArg some hx))); clear hr0 hK hx; (go_enter Tryd.func7, Tryd.ntmps7); (go_wp2_with (go_at_call 20; refine HX.out.mono ?_; rintro e w2 ⟨rfl, hb⟩; have HB := aM_ hb; clear hb)); go_ret; exact ⟨rfl, HB.out⟩
set_option maxHeartbeats 16000000 in
set_option maxRecDepth 100000 in
theorem sweep_Dirty_yes (A0 : Option Addr) (c0 : Nat) (l0 : List S36) (A1 : Option Addr) (c1 : Nat) (l1 : List ByteArray) (A2 : Option Addr) (c2 : Nat) (l2 : List Int) (A3 : Option Addr) (c3 : Nat) (l3 : List Int) (n : Nat) (w : World) (hr0 : Kd.C k36 w A0 l0.length l0) (hc0 : l0.length ≤ c0) (hr1 : Kd.C Kd.string w A1 l1.length l1) (hc1 : l1.length ≤ c1) (hr2 : Kd.C (Kd.int .i64) w A2 l2.length l2) (hc2 : l2.length ≤ c2) (hr3 : Kd.C (Kd.int .i64) w A3 l3.length l3) (hc3 : l3.length ≤ c3)
 (hl : l0.length < 2932031007402) (hl2 : l2.length < 17592186044416) (hx : isIndex l0 = true) (hmn : (if l3.length < l2.length then (l3.length : Int) else (l2.length : Int)) = (n : Int)) (hn2 : n ≤ l2.length) (hn3 : n ≤ l3.length) :
 Calls Tryd.prog 7 #[.slice A0 l0.length c0, .slice A1 l1.length c1, .slice A2 l2.length c2, .slice A3 l3.length c3] w fun e w' => ∃ v0_ : Value, e = .returned (v0_) ∧ Kd.R (Kd.int .i64) 3 w' w.heap.size (fun _ => True) v0_ ((((l2.zip l3).take n).filter fun z => isDirty l0 l1 z.1 z.2).map (·.1)) ∧ Below w.heap.size w w' := by
 obtain ⟨K, hK⟩ := index_Check_ev l0 (by omega); have HX := aM_ (index_Check.calls K A0 c0 l0 true w hr0 hc0 ((hK K (Nat.le_refl _)).trans (congrArg some hx))); have HR0 := aM_ hr0; have HR1 := aM_ hr1; have HR2 := aM_ hr2; have HR3 := aM_ hr3; have HN2 := aM_ hn2; have HN3 := aM_ hn3; have HL2 := aM_ hl2; have HC1 := aM_ hc1; have hm0 : l0.length ≤ 9223372036854775807 := hr0.2.1; (have n1 : (0 : Int) ≤ (n : Int) := by omega); (have n2 : (n : Int) ≤ (l2.length : Int) := by omega); (have n3 : (n : Int) ≤ (c2 : Int) := by omega); (have n4 : (n : Int) ≤ 9223372036854775807 := by have := hr2.2.1; omega); clear hr0 hK hx hr1 hr2 hr3 hl2 hc1; (go_enter Tryd.func7, Tryd.ntmps7); (go_wp2_with (go_at_call 20; refine HX.out.mono ?_; rintro e w2 ⟨rfl, hb⟩; have HB := aM_ hb; clear hb)); (go_loopg [9, 27] n (fun gk v9 v27 w' => ∃ i : Nat, v27 = .int .i64 i ∧ Aside0 (i + gk = n) ∧ Aside0 (Kd.R (Kd.int .i64) 3 w' w.heap.size (fun _ => True) v9 ((((l2.zip l3).take i).filter fun z => isDirty l0 l1 z.1 z.2).map (·.1))) ∧ Aside0 (Below w.heap.size w w')))
 case atStart => exact ⟨0, rfl, ⟨by omega⟩, ⟨Kd.R_nil _ _ _ _ _⟩, HB⟩
 case round =>
  clear HB HX; obtain ⟨i, rfl, HIG, HO, HB⟩ := hrel
  cases gk with
  | zero =>
   (obtain rfl : i = n := by have := HIG.out; omega); go_wp2; go_ret; exact ⟨_, rfl, HO.out, HB.out⟩
  | succ g0 =>
   (have hi : i < n := by have := HIG.out; omega); have hlt : decide (i < n) = true := decide_eq_true hi; (have p1 : (0 : Int) ≤ (i : Int) := by omega); (have q1 : (i : Int) < (n : Int) := by omega); (have q2 : (i : Int) < (l2.length : Int) := by omega); (have q3 : (i : Int) < (l3.length : Int) := by omega); obtain ⟨ad2, e2, hx2⟩ := Kd.at_int HR2.out (i : Int) p1 q2; (cases e2); obtain ⟨ad3, e3, hx3⟩ := Kd.at_int HR3.out (i : Int) p1 q3; (cases e3); simp only [Int.toNat_natCast] at hx2 hx3; replace hx2 := pw_cell_below HB.out hx2; have HX3 := aM_ hx3
   have hz : (l2.zip l3)[i]? = some (rd l2 (i : Int), rd l3 (i : Int)) := by
    rw [List.getElem?_zip_eq_some]; simp [rd, show i < l2.length by omega, show i < l3.length by omega]
   generalize rd l2 (i : Int) = p at hx2 hz; generalize hu : rd l3 (i : Int) = u at hz; rw [hu] at HX3; have HZ := aM_ hz; clear hz hx3 hu; obtain ⟨Ao, co, eo⟩ := Kd.R_slice HO.out; subst eo; obtain ⟨wo, hwo⟩ : ∃ wo : World, wo = wr := ⟨_, rfl⟩; subst hwo
   have hys : (((l2.zip l3).take (i + 1)).filter fun z => isDirty l0 l1 z.1 z.2).map (·.1) = if isDirty l0 l1 p u then (((l2.zip l3).take i).filter fun z => isDirty l0 l1 z.1 z.2).map (·.1) ++ [p] else (((l2.zip l3).take i).filter fun z => isDirty l0 l1 z.1 z.2).map (·.1) := by
    (have e : (l2.zip l3).take (i + 1) = (l2.zip l3).take i ++ [(p, u)] := by rw [List.take_add_one, HZ.out]; rfl); rw [e, List.filter_append, List.map_append]; (cases hd : isDirty l0 l1 p u <;> simp [List.filter_cons, hd])
   have hyl : (((((l2.zip l3).take i).filter fun z => isDirty l0 l1 z.1 z.2).map (·.1)).length + 1) * 8 ≤ 140737488355328 := by
    have h1 := List.length_filter_le (fun z : Int × Int => isDirty l0 l1 z.1 z.2) ((l2.zip l3).take i); rw [List.length_map]; rw [List.length_take] at h1; have := HL2.out; omega
   generalize hyn : (((l2.zip l3).take i).filter fun z => isDirty l0 l1 z.1 z.2).map (·.1) = ys at HO hys hyl ⊢; have HYS := aM_ hys; have HLM := aM_ hyl; have HYN := aM_ hyn; clear hys hyl hyn; go_wp2; (go_loopg [12, 13, 34] l0.length (fun gq v12 v13 v34 wi => ∃ j : Nat, v34 = .int .i64 j ∧ v12 = .int .i64 (packSum (l0.take j) p) ∧ v13 = .bool ((l0.take j).any fun x => decide (x.f1 = p) && !hasText l1 x.f0) ∧ Aside0 (j + gq = l0.length) ∧ Aside0 (Below wo.heap.size wo wi)))
   case atStart => exact ⟨0, rfl, by simp [packSum], by simp, ⟨by omega⟩, ⟨Below.refl _ _⟩⟩
   case round =>
    obtain ⟨j, rfl, rfl, rfl, HJG, HBi⟩ := hrel
    cases gk with
    | zero =>
     (obtain rfl : j = l0.length := by have := HJG.out; omega); have HT : Aside0 ((((l2.zip l3).take (i + 1)).filter fun z => isDirty l0 l1 z.1 z.2).map (·.1) = if isDirty l0 l1 p u then ys ++ [p] else ys) := HYS; have HO5 := aM_ (Kd.R_below HO.out HBi.out); have HB5 := aM_ (below_step HB.out HBi.out); have hxu : wr.cell? (ad3.add i) = some (.int .i64 u) := pw_cell_below HB5.out HX3.out; have hii : decide (i < l3.length) = true := decide_eq_true (by omega); simp only [List.take_length]; have HDD : Aside0 (isDirty l0 l1 p u = ((l0.any fun x => decide (x.f1 = p) && !hasText l1 x.f0) || decide (packSum l0 p < u))) := ⟨rfl⟩; generalize packSum l0 p = s at HDD ⊢
     cases hd : (l0.any fun x => decide (x.f1 = p) && !hasText l1 x.f0) with
     | true =>
      rw [hd] at HDD; clear hd; (go_wp2_with (((with_reducible refine gate_builtin (b := .append) (xs := #[.tmp 64, .tmp 66]) rfl ?_); at_builtin; refine Kd.R_append (Kd.int .i64) (w0 := w) w.heap.size rfl (.tmp 64) (.tmp 66) 24 3 (.int .i64 0) 8 rfl Tryd.underlying24 (by kernel_rfl) rfl (by decide) (by omega) (.slice Ao ys.length co) ys p [.int .i64 p] (fun _ => True) (fun _ => False) rfl rfl ?aP (fun _ hk => hk.elim) (fun _ _ => trivial) HO5.out HB5.out HB5.out.size HLM.out ?_; (case aP => exact rfl); intro v9 w6 ho hb hg hat; have HO6 := aM_ ho; have HB6 := aM_ hb; clear ho hb hg hat))); (go_roundg g0)
      case measure => omega
      case rel => exact ⟨i + 1, by first | rfl | (go_num), ⟨by have := HIG.out; omega⟩, ⟨by rw [HT.out, if_pos (by rw [HDD.out]; rfl)]; exact HO6.out⟩, ⟨HB6.out⟩⟩
     | false =>
      rw [hd] at HDD; clear hd; (by_cases hs : s < u)
      · have hsb : decide (s < u) = true := decide_eq_true hs
        rw [hsb] at HDD; clear hs; (go_wp2_with (((with_reducible refine gate_builtin (b := .append) (xs := #[.tmp 64, .tmp 66]) rfl ?_); at_builtin; refine Kd.R_append (Kd.int .i64) (w0 := w) w.heap.size rfl (.tmp 64) (.tmp 66) 24 3 (.int .i64 0) 8 rfl Tryd.underlying24 (by kernel_rfl) rfl (by decide) (by omega) (.slice Ao ys.length co) ys p [.int .i64 p] (fun _ => True) (fun _ => False) rfl rfl ?aP (fun _ hk => hk.elim) (fun _ _ => trivial) HO5.out HB5.out HB5.out.size HLM.out ?_; (case aP => exact rfl); intro v9 w6 ho hb hg hat; have HO6 := aM_ ho; have HB6 := aM_ hb; clear ho hb hg hat))); (go_roundg g0)
        case measure => omega
        case rel => exact ⟨i + 1, by first | rfl | (go_num), ⟨by have := HIG.out; omega⟩, ⟨by rw [HT.out, if_pos (by rw [HDD.out]; rfl)]; exact HO6.out⟩, ⟨HB6.out⟩⟩
      · have hsb : decide (s < u) = false := decide_eq_false hs
        rw [hsb] at HDD; clear hs; go_wp2; (go_roundg g0)
        case measure => omega
        case rel => exact ⟨i + 1, by first | rfl | (go_num), ⟨by have := HIG.out; omega⟩, ⟨by rw [HT.out, if_neg (by rw [HDD.out]; decide)]; exact HO5.out⟩, ⟨HB5.out⟩⟩
    | succ gq =>
     (have hj : j < l0.length := by have := HJG.out; omega); have hjl : decide (j < l0.length) = true := decide_eq_true hj; (have pj : (0 : Int) ≤ (j : Int) := by omega); (have qj : (j : Int) < (l0.length : Int) := by omega); obtain ⟨ad0, e0, hx0, hx1, hx2', hx3', hx4⟩ := at_T36 HR0.out (j : Int) pj qj; (cases e0); simp only [Int.toNat_natCast] at hx0 hx1 hx2' hx3' hx4; have HBw := aM_ (below_step HB.out HBi.out); replace hx0 := pw_cell_below HBw.out hx0; replace hx1 := pw_cell_below HBw.out hx1; replace hx2' := pw_cell_below HBw.out hx2'; replace hx3' := pw_cell_below HBw.out hx3'; replace hx4 := pw_cell_below HBw.out hx4; (have hxg : l0[j]? = some (rd_T36 l0 (j : Int)) := by simp [rd_T36, hj]); generalize rd_T36 l0 (j : Int) = x at hx0 hx1 hx2' hx3' hx4 hxg; obtain ⟨t1, t2⟩ := dirty_take l0 l1 p j x hxg; generalize packSum (l0.take j) p = s at t1 ⊢; generalize ((l0.take j).any fun x => decide (x.f1 = p) && !hasText l1 x.f0) = d at t2 ⊢; have T1 := aM_ t1; have T2 := aM_ t2; have HB4 := aM_ (HBi.out.alloc HBi.out.size (.cells #[.string x.f0, .int .i64 x.f1, .int .i64 x.f2, .int .i64 x.f3, .int .i64 x.f4] 36)); have HG4 := aM_ (blk_new wr (.cells #[.string x.f0, .int .i64 x.f1, .int .i64 x.f2, .int .i64 x.f3, .int .i64 x.f4] 36)); have HC := aM_ (key_Contains l1 x.f0 A1 c1 (wr.alloc (.cells #[.string x.f0, .int .i64 x.f1, .int .i64 x.f2, .int .i64 x.f3, .int .i64 x.f4] 36)) (Kd.C_below HR1.out (below_step HB.out HB4.out)) HC1.out); clear hxg t1 t2; (go_upto_region 11 with (fail)); generalize (wr.alloc (.cells #[.string x.f0, .int .i64 x.f1, .int .i64 x.f2, .int .i64 x.f3, .int .i64 x.f4] 36)) = w4 at HB4 HG4 HC ⊢; have HGS : Aside0 (∃ gb, wr.heap.size = gb) := ⟨_, rfl⟩; generalize wr.heap.size = gb at HG4 HGS ⊢; clear hx0 hx1 hx2' hx3' hx4; have hy0 : w4.cell? ⟨gb, 0, none⟩ = some (.string x.f0) := blk_cell HG4.out 0; have hy1 : w4.cell? ⟨gb, 1, none⟩ = some (.int .i64 x.f1) := blk_cell HG4.out 1; have hy3 : w4.cell? ⟨gb, 3, none⟩ = some (.int .i64 x.f3) := blk_cell HG4.out 3; (by_cases hp : x.f1 = p)
     · have hpb : (x.f1 == p) = true := beq_iff_eq.mpr hp
       rw [if_pos hp] at T1; rw [decide_eq_true hp, Bool.true_and] at T2; clear hp
       cases d with
       | true =>
        go_wp2; (go_roundg gq)
        case measure => omega
        case rel => exact ⟨j + 1, by first | rfl | (go_num), by rw [T1.out], by rw [T2.out]; rfl, ⟨by have := HJG.out; omega⟩, ⟨HB4.out⟩⟩
       | false =>
        (go_wp2_with (go_at_call 21; refine HC.out.mono ?_; rintro e w5 ⟨rfl, hb⟩; have HB5 := aM_ (below_step HB4.out hb); clear hb)); (go_roundg gq)
        case measure => omega
        case rel => exact ⟨j + 1, by first | rfl | (go_num), by rw [T1.out], by rw [T2.out]; rfl, ⟨by have := HJG.out; omega⟩, ⟨HB5.out⟩⟩
     · have hpb : (x.f1 == p) = false := beq_eq_false_iff_ne.mpr hp
       rw [if_neg hp] at T1; rw [decide_eq_false hp, Bool.false_and, Bool.or_false] at T2; clear hp; go_wp2; (go_roundg gq)
       case measure => omega
       case rel => exact ⟨j + 1, by first | rfl | (go_num), by rw [T1.out], by rw [T2.out], ⟨by have := HJG.out; omega⟩, ⟨HB4.out⟩⟩
theorem sweep_Dirty.calls (A0 : Option Addr) (c0 : Nat) (l0 : List S36) (A1 : Option Addr) (c1 : Nat) (l1 : List ByteArray) (A2 : Option Addr) (c2 : Nat) (l2 : List Int) (A3 : Option Addr) (c3 : Nat) (l3 : List Int) (r : List Int) (w : World) (hr0 : Kd.C k36 w A0 l0.length l0) (hc0 : l0.length ≤ c0) (hr1 : Kd.C Kd.string w A1 l1.length l1) (hc1 : l1.length ≤ c1) (hr2 : Kd.C (Kd.int .i64) w A2 l2.length l2) (hc2 : l2.length ≤ c2) (hr3 : Kd.C (Kd.int .i64) w A3 l3.length l3) (hc3 : l3.length ≤ c3) (h : sweep_Dirty.f l0 l1 l2 l3 = some r) :
 Calls Tryd.prog 7 #[.slice A0 l0.length c0, .slice A1 l1.length c1, .slice A2 l2.length c2, .slice A3 l3.length c3] w fun e w' => ∃ v0_ : Value, e = .returned (v0_) ∧ Kd.R (Kd.int .i64) 3 w' w.heap.size (fun _ => True) v0_ r ∧ Below w.heap.size w w' := by
 unfold sweep_Dirty.f at h; (by_cases hl : l0.length < 2932031007402 ∧ l2.length < 17592186044416)
 · rw [if_pos hl] at h
   obtain rfl := Option.some.inj h; clear h; obtain ⟨hl, hl2⟩ := hl
   cases hx : isIndex l0 with
   | false =>
    refine (sweep_Dirty_no A0 c0 l0 _ _ _ w hr0 hc0 hl hx).mono ?_; rintro e w' ⟨rfl, hb⟩; exact ⟨_, rfl, by rw [dirtyOf, hx]; exact Kd.R_nil _ _ _ _ _, hb⟩
   | true =>
    have hd : dirtyOf l0 l1 l2 l3 = (((l2.zip l3).take (min l2.length l3.length)).filter fun z => isDirty l0 l1 z.1 z.2).map (·.1) := by
     rw [dirtyOf, hx, List.take_of_length_le (by simp [List.length_zip])]; rfl
    rw [hd]; refine sweep_Dirty_yes A0 c0 l0 A1 c1 l1 A2 c2 l2 A3 c3 l3 (min l2.length l3.length) w hr0 hc0 hr1 hc1 hr2 hc2 hr3 hc3 hl hl2 hx ?_ (Nat.min_le_left _ _) (Nat.min_le_right _ _)
    split <;> omega
 (· rw [if_neg hl] at h; cases h)
def q07_Same.l0 : Nat → List ByteArray → List ByteArray → Int → Option (Bool)
 | 0, _, _, _ => none
 | k + 1, x0, x1, x5 => if x5 < (x0.length : Int) then (if 0 ≤ x5 then (if x5 < (x1.length : Int) then (if (rdOf ByteArray.empty x0 x5).toList = (rdOf ByteArray.empty x1 x5).toList then (q07_Same.l0 k x0 x1 (wrap64 (x5 + 1))) else (some false)) else (none)) else (none)) else (some true)
def q07_Same.f (k : Nat) (l0 : List ByteArray) (l1 : List ByteArray) : Option (Bool) := if (l0.length : Int) = (l1.length : Int) then (q07_Same.l0 k l0 l1 0) else (some false)
theorem q07_Same.mono_l : ∀ k, (∀ y0 y1 y2, LeO (q07_Same.l0 k y0 y1 y2) (q07_Same.l0 (k + 1) y0 y1 y2))
 | 0 => fun _ _ _ r h => by simp [q07_Same.l0] at h
 | k + 1 => by
  have ih0 := q07_Same.mono_l k
  · intro y0 y1 y2
    unfold q07_Same.l0
    repeat' first
    | (with_reducible exact ih0 _ _ _)
    | (with_reducible exact LeO.refl _)
    | (with_reducible exact LeO.none _)
    | (with_reducible refine LeO.ite ?_ ?_)
    | (with_reducible refine LeO.bind ?_ (fun _ => ?_))
    | exact ih0 _ _ _
    | exact LeO.none _
    | refine LeO.ite ?_ ?_
    | refine LeO.bind ?_ (fun _ => ?_)
theorem q07_Same.mono : ∀ a0 a1 k, LeO (q07_Same.f k a0 a1) (q07_Same.f (k + 1) a0 a1) := by
 intro a0 a1 k; have ih0 := q07_Same.mono_l k; unfold q07_Same.f
 repeat' first
  | (with_reducible exact ih0 _ _ _)
  | (with_reducible exact LeO.refl _)
  | (with_reducible exact LeO.none _)
  | (with_reducible refine LeO.ite ?_ ?_)
  | (with_reducible refine LeO.bind ?_ (fun _ => ?_))
  | exact ih0 _ _ _
  | exact LeO.none _
  | refine LeO.ite ?_ ?_
  | refine LeO.bind ?_ (fun _ => ?_)
set_option maxHeartbeats 8000000 in
set_option maxRecDepth 100000 in
theorem q07_Same.calls (k : Nat) (A0 : Option Addr) (c0 : Nat) (l0 : List ByteArray) (A1 : Option Addr) (c1 : Nat) (l1 : List ByteArray) (r : Bool) (w : World) (hr0 : Kd.C Kd.string w A0 l0.length l0) (hc0 : l0.length ≤ c0) (hr1 : Kd.C Kd.string w A1 l1.length l1) (hc1 : l1.length ≤ c1) (h : q07_Same.f k l0 l1 = some r) :
 Calls Tryd.prog 9 #[.slice A0 l0.length c0, .slice A1 l1.length c1] w fun e w' => e = .returned (.bool r) ∧ Drawn0 w w' := by
 have HR0 := aM_ hr0; have HC0 := aM_ hc0; clear hr0 hc0; have HR1 := aM_ hr1; have HC1 := aM_ hc1; clear hr1 hc1; have H : (if (l0.length : Int) = (l1.length : Int) then (q07_Same.l0 k l0 l1 0) else (some false)) = some r := h; clear h; (by_cases c3 : (l0.length : Int) = (l1.length : Int))
 · rw [if_pos c3] at H
   have c3b0 : ((l0.length : Int) == (l1.length : Int)) = true := beq_iff_eq.mpr c3; have c3b1 : ((l0.length : Int) != (l1.length : Int)) = false := bne_eq_false_iff_eq.mpr c3; (have c3b2 : (l0.length == l1.length) = true := by first | simpa using c3 | (simp at c3 ⊢; omega)); clear c3; have H' := aM_ H; clear H; (go_enter Tryd.func9, Tryd.ntmps9); go_wp2
   repeat (go_quiet (fail); try go_wp2)
   (go_loopg [5] k (fun kq v5 w' => ∃ (x5_1 : Int), v5 = .int .i64 x5_1 ∧ Aside0 (q07_Same.l0 kq l0 l1 x5_1 = some r) ∧ Aside0 (kq ≤ k) ∧ Drawn0 w w'))
   case atStart => exact ⟨(0), (by first | rfl | (simp; done) | (simp [*]; done)), H', ⟨Nat.le_refl _⟩, by repeat (first | exact Drawn0.refl _ | apply Drawn0.step)⟩
   case round =>
    clear H'; (try clear c1); (try clear p2); (try clear c3); (try clear c3b0); (try clear c3b1); (try clear c3b2); obtain ⟨x5_1, rfl, HA, HK1, ⟨m1, rfl⟩⟩ := hrel
    cases gk with
    | zero => exact absurd HA.out (by simp [q07_Same.l0])
    | succ k1 =>
     have H := HA.out; clear HA; simp only [q07_Same.l0] at H; (by_cases c4 : x5_1 < (l0.length : Int))
     · rw [if_pos c4] at H
       have c4b0 : decide (x5_1 < (l0.length : Int)) = true := decide_eq_true c4; clear c4; (by_cases c5 : 0 ≤ x5_1)
       · rw [if_pos c5] at H
         have c5b0 : decide (0 ≤ x5_1) = true := decide_eq_true c5; clear c5; (by_cases c6 : x5_1 < (l1.length : Int))
         · rw [if_pos c6] at H
           have c6b0 : decide (x5_1 < (l1.length : Int)) = true := decide_eq_true c6; clear c6; (by_cases c7 : (rdOf ByteArray.empty l0 x5_1).toList = (rdOf ByteArray.empty l1 x5_1).toList)
           · rw [if_pos c7] at H
             have c7b0 : ((rdOf ByteArray.empty l0 x5_1).toList == (rdOf ByteArray.empty l1 x5_1).toList) = true := beq_iff_eq.mpr c7; have c7b1 : ((rdOf ByteArray.empty l0 x5_1).toList != (rdOf ByteArray.empty l1 x5_1).toList) = false := bne_eq_false_iff_eq.mpr c7; clear c7; have H' := aM_ H; clear H; have p118 : 0 ≤ (x5_1 : Int) := of_decide_eq_true (by assumption); have q118 : x5_1 < (l0.length : Int) := of_decide_eq_true (by assumption); obtain ⟨ad118, e118, hx118_0⟩ := Kd.at_string HR0.out x5_1 p118 q118; (cases e118); replace p118 := eq_true p118; replace q118 := eq_true q118; have p119 : 0 ≤ (x5_1 : Int) := of_decide_eq_true (by assumption); have q119 : x5_1 < (l1.length : Int) := of_decide_eq_true (by assumption); obtain ⟨ad119, e119, hx119_0⟩ := Kd.at_string HR1.out x5_1 p119 q119; (cases e119); replace p119 := eq_true p119; replace q119 := eq_true q119; go_wp2
             repeat (go_quiet (fail); try go_wp2)
             (go_roundg k1)
             case measure => have := HK1.out; omega
             case rel => exact ⟨(wrap64 (x5_1 + 1)), (by first | rfl | (simp; done) | (simp [*]; done)), H', ⟨by have := HK1.out; omega⟩, by repeat (first | exact Drawn0.refl _ | apply Drawn0.step)⟩
           · rw [if_neg c7] at H
             have c7b0 : ((rdOf ByteArray.empty l0 x5_1).toList == (rdOf ByteArray.empty l1 x5_1).toList) = false := beq_eq_false_iff_ne.mpr c7; have c7b1 : ((rdOf ByteArray.empty l0 x5_1).toList != (rdOf ByteArray.empty l1 x5_1).toList) = true := bne_iff_ne.mpr c7; obtain rfl := Option.some.inj H; simp only [Option.some.injEq, Prod.mk.injEq] at H; obtain ⟨rfl⟩ := H; have p118 : 0 ≤ (x5_1 : Int) := of_decide_eq_true (by assumption); have q118 : x5_1 < (l0.length : Int) := of_decide_eq_true (by assumption); obtain ⟨ad118, e118, hx118_0⟩ := Kd.at_string HR0.out x5_1 p118 q118; (cases e118); replace p118 := eq_true p118; replace q118 := eq_true q118; have p119 : 0 ≤ (x5_1 : Int) := of_decide_eq_true (by assumption); have q119 : x5_1 < (l1.length : Int) := of_decide_eq_true (by assumption); obtain ⟨ad119, e119, hx119_0⟩ := Kd.at_string HR1.out x5_1 p119 q119; (cases e119); replace p119 := eq_true p119; replace q119 := eq_true q119; go_wp2
             repeat (go_quiet (fail); try go_wp2)
             go_ret; exact ⟨by first | rfl | (simp; done) | (simp [*]; done), by repeat (first | exact Drawn0.refl _ | apply Drawn0.step)⟩
         (· rw [if_neg c6] at H; exact absurd H (by simp))
       (· rw [if_neg c5] at H; exact absurd H (by simp))
     · rw [if_neg c4] at H
       have c4b0 : decide (x5_1 < (l0.length : Int)) = false := decide_eq_false c4; clear c4; obtain rfl := Option.some.inj H; simp only [Option.some.injEq, Prod.mk.injEq] at H; obtain ⟨rfl⟩ := H; go_wp2
       repeat (go_quiet (fail); try go_wp2)
       go_ret; exact ⟨by first | rfl | (simp; done) | (simp [*]; done), by repeat (first | exact Drawn0.refl _ | apply Drawn0.step)⟩
 · rw [if_neg c3] at H
   have c3b0 : ((l0.length : Int) == (l1.length : Int)) = false := beq_eq_false_iff_ne.mpr c3; have c3b1 : ((l0.length : Int) != (l1.length : Int)) = true := bne_iff_ne.mpr c3; (have c3b2 : (l0.length == l1.length) = false := by first | simpa using c3 | (simp at c3 ⊢; omega)); obtain rfl := Option.some.inj H; simp only [Option.some.injEq, Prod.mk.injEq] at H; obtain ⟨rfl⟩ := H; (go_enter Tryd.func9, Tryd.ntmps9); go_wp2
   repeat (go_quiet (fail); try go_wp2)
   go_ret; exact ⟨by first | rfl | (simp; done) | (simp [*]; done), by repeat (first | exact Drawn0.refl _ | apply Drawn0.step)⟩
theorem ref07_Same_ev (l : List ByteArray) (hl : l.length ≤ 9223372036854775807) : Ev (fun k => q07_Same.f k l l) true := by
 refine Ev.congr (fun k => ?_) (same_loop l (fun k i => q07_Same.l0 k l l (i : Int)) (fun k i h => ?_) (fun k => ?_) l.length 0 (by omega)); (· unfold q07_Same.f; rw [if_pos rfl]; rfl); (· simp only [q07_Same.l0]; rw [if_pos (by omega), if_pos (by omega), if_pos (by omega), if_pos (by trivial), wrap_succ i l.length h hl]); (· simp only [q07_Same.l0]; rw [if_neg (by omega)])
end Go.Proofs.YtoobchhfcobbpaaDoor.Fn
