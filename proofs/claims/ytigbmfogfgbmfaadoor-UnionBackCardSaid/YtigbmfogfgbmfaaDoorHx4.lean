import Derived.Test.YtigbmfogfgbmfaaDoorHx0
import Derived.Test.YtigbmfogfgbmfaaDoorHx3
import Derived.Test.YtigbmfogfgbmfaaDoorRw
import Derived.Test.YtigbmfogfgbmfaaDoorSh
namespace Go.Proofs.YtigbmfogfgbmfaaDoor.Fn
set_option maxHeartbeats 8000000
set_option maxRecDepth 100000
open Go.RowKit Go.Proofs.YtigbmfogfgbmfaaDoorW.PrintWords Go.Proofs.YtigbmfogfgbmfaaDoorW.PrintLast Go.Proofs.YtigbmfogfgbmfaaDoorW.PrintMore
attribute [local go_sem] max2_int min2_int max_two min_two max_three min_three max_four min_four
set_option linter.unusedVariables false
set_option linter.unusedSimpArgs false
def q01_Texts.l0 : Nat → List ByteArray → List ByteArray → Int → Option (Bool)
  | 0, _, _, _ => none
  | k + 1, x0, x1, x5 => if x5 < (x0.length : Int) then (if 0 ≤ x5 then (if x5 < (x1.length : Int) then (if (rdOf ByteArray.empty x0 x5).toList = (rdOf ByteArray.empty x1 x5).toList then (q01_Texts.l0 k x0 x1 (wrap64 (x5 + 1))) else (some false)) else (none)) else (none)) else (some true)
def q01_Texts.f (k : Nat) (l0 : List ByteArray) (l1 : List ByteArray) : Option (Bool) := if (l0.length : Int) = (l1.length : Int) then (q01_Texts.l0 k l0 l1 0) else (some false)
theorem q01_Texts.mono_l : ∀ k, (∀ y0 y1 y2, LeO (q01_Texts.l0 k y0 y1 y2) (q01_Texts.l0 (k + 1) y0 y1 y2))
  | 0 => fun _ _ _ r h => by simp [q01_Texts.l0] at h
  | k + 1 => by
    have ih0 := q01_Texts.mono_l k
    · intro y0 y1 y2
      unfold q01_Texts.l0
      repeat' first
      | (with_reducible exact ih0 _ _ _)
      | (with_reducible exact LeO.refl _)
      | (with_reducible exact LeO.none _)
      | (with_reducible refine LeO.ite ?_ ?_)
      | (with_reducible refine LeO.bind ?_ (fun _ => ?_))
      | exact ih0 _ _ _
      | exact LeO.none _
      | refine LeO.ite ?_ ?_
      | refine LeO.bind ?_ (fun _ => ?_)
theorem q01_Texts.mono : ∀ a0 a1 k, LeO (q01_Texts.f k a0 a1) (q01_Texts.f (k + 1) a0 a1) := by
 intro a0 a1 k; have ih0 := q01_Texts.mono_l k; unfold q01_Texts.f
 repeat' first
     | (with_reducible exact ih0 _ _ _)
     | (with_reducible exact LeO.refl _)
     | (with_reducible exact LeO.none _)
     | (with_reducible refine LeO.ite ?_ ?_)
     | (with_reducible refine LeO.bind ?_ (fun _ => ?_))
     | exact ih0 _ _ _
     | exact LeO.none _
     | refine LeO.ite ?_ ?_
     | refine LeO.bind ?_ (fun _ => ?_)
theorem q01_Texts.calls (k : Nat) (A0 : Option Addr) (c0 : Nat) (l0 : List ByteArray) (A1 : Option Addr) (c1 : Nat) (l1 : List ByteArray) (r : Bool) (w : World) (hr0 : Kd.C Kd.string w A0 l0.length l0) (hc0 : l0.length ≤ c0) (hr1 : Kd.C Kd.string w A1 l1.length l1) (hc1 : l1.length ≤ c1) (h : q01_Texts.f k l0 l1 = some r) :
    Calls Tryd.prog 11 #[.slice A0 l0.length c0, .slice A1 l1.length c1] w fun e w' => e = .returned (.bool r) ∧ Drawn0 w w' := by
 have HR0 := aM_ hr0; have HC0 := aM_ hc0; clear hr0 hc0; have HR1 := aM_ hr1; have HC1 := aM_ hc1; clear hr1 hc1; have H : (if (l0.length : Int) = (l1.length : Int) then (q01_Texts.l0 k l0 l1 0) else (some false)) = some r := h; clear h; (by_cases c3 : (l0.length : Int) = (l1.length : Int))
 · rw [if_pos c3] at H
   have c3b0 : ((l0.length : Int) == (l1.length : Int)) = true := beq_iff_eq.mpr c3; have c3b1 : ((l0.length : Int) != (l1.length : Int)) = false := bne_eq_false_iff_eq.mpr c3; (have c3b2 : (l0.length == l1.length) = true := by first | simpa using c3 | (simp at c3 ⊢; omega)); clear c3; have H' := aM_ H; clear H; (go_enter Tryd.func11, Tryd.ntmps11); go_wp2
   repeat (go_quiet (fail); try go_wp2)
   (go_loopg [5] k (fun kq v5 w' => ∃ (x5_1 : Int), v5 = .int .i64 x5_1 ∧ Aside0 (q01_Texts.l0 kq l0 l1 x5_1 = some r) ∧ Aside0 (kq ≤ k) ∧ Drawn0 w w'))
   case atStart => exact ⟨(0), (by first | rfl | (simp; done) | (simp [*]; done)), H', ⟨Nat.le_refl _⟩, by repeat (first | exact Drawn0.refl _ | apply Drawn0.step)⟩
   case round =>
    clear H'; (try clear c1); (try clear p2); (try clear c3); (try clear c3b0); (try clear c3b1); (try clear c3b2); obtain ⟨x5_1, rfl, HA, HK1, ⟨m1, rfl⟩⟩ := hrel
    cases gk with
    | zero => exact absurd HA.out (by simp [q01_Texts.l0])
    | succ k1 =>
     have H := HA.out; clear HA; simp only [q01_Texts.l0] at H; (by_cases c4 : x5_1 < (l0.length : Int))
     · rw [if_pos c4] at H
       have c4b0 : decide (x5_1 < (l0.length : Int)) = true := dT_ c4; clear c4; (by_cases c5 : 0 ≤ x5_1)
       · rw [if_pos c5] at H
         have c5b0 : decide (0 ≤ x5_1) = true := dT_ c5; clear c5; (by_cases c6 : x5_1 < (l1.length : Int))
         · rw [if_pos c6] at H
           have c6b0 : decide (x5_1 < (l1.length : Int)) = true := dT_ c6; clear c6; (by_cases c7 : (rdOf ByteArray.empty l0 x5_1).toList = (rdOf ByteArray.empty l1 x5_1).toList)
           · rw [if_pos c7] at H
             have c7b0 : ((rdOf ByteArray.empty l0 x5_1).toList == (rdOf ByteArray.empty l1 x5_1).toList) = true := beq_iff_eq.mpr c7; have c7b1 : ((rdOf ByteArray.empty l0 x5_1).toList != (rdOf ByteArray.empty l1 x5_1).toList) = false := bne_eq_false_iff_eq.mpr c7; clear c7; have H' := aM_ H; clear H; have p129 : 0 ≤ (x5_1 : Int) := oD_ (by assumption); have q129 : x5_1 < (l0.length : Int) := oD_ (by assumption); obtain ⟨ad129, e129, hx129_0⟩ := Kd.at_string HR0.out x5_1 p129 q129; (cases e129); replace p129 := eq_true p129; replace q129 := eq_true q129; have p130 : 0 ≤ (x5_1 : Int) := oD_ (by assumption); have q130 : x5_1 < (l1.length : Int) := oD_ (by assumption); obtain ⟨ad130, e130, hx130_0⟩ := Kd.at_string HR1.out x5_1 p130 q130; (cases e130); replace p130 := eq_true p130; replace q130 := eq_true q130; go_wp2
             repeat (go_quiet (fail); try go_wp2)
             (go_roundg k1)
             case measure => have := HK1.out; omega
             case rel => exact ⟨(wrap64 (x5_1 + 1)), (by first | rfl | (simp; done) | (simp [*]; done)), H', ⟨by have := HK1.out; omega⟩, by repeat (first | exact Drawn0.refl _ | apply Drawn0.step)⟩
           · rw [if_neg c7] at H
             have c7b0 : ((rdOf ByteArray.empty l0 x5_1).toList == (rdOf ByteArray.empty l1 x5_1).toList) = false := beq_eq_false_iff_ne.mpr c7; have c7b1 : ((rdOf ByteArray.empty l0 x5_1).toList != (rdOf ByteArray.empty l1 x5_1).toList) = true := bne_iff_ne.mpr c7; obtain rfl := oJ_ H; simp only [oI_, pI_] at H; obtain ⟨rfl⟩ := H; have p129 : 0 ≤ (x5_1 : Int) := oD_ (by assumption); have q129 : x5_1 < (l0.length : Int) := oD_ (by assumption); obtain ⟨ad129, e129, hx129_0⟩ := Kd.at_string HR0.out x5_1 p129 q129; (cases e129); replace p129 := eq_true p129; replace q129 := eq_true q129; have p130 : 0 ≤ (x5_1 : Int) := oD_ (by assumption); have q130 : x5_1 < (l1.length : Int) := oD_ (by assumption); obtain ⟨ad130, e130, hx130_0⟩ := Kd.at_string HR1.out x5_1 p130 q130; (cases e130); replace p130 := eq_true p130; replace q130 := eq_true q130; go_wp2
             repeat (go_quiet (fail); try go_wp2)
             go_ret; exact ⟨by first | rfl | (simp; done) | (simp [*]; done), by repeat (first | exact Drawn0.refl _ | apply Drawn0.step)⟩
         (· rw [if_neg c6] at H; exact absurd H (by simp))
       (· rw [if_neg c5] at H; exact absurd H (by simp))
     · rw [if_neg c4] at H
       have c4b0 : decide (x5_1 < (l0.length : Int)) = false := decide_eq_false c4; clear c4; obtain rfl := oJ_ H; simp only [oI_, pI_] at H; obtain ⟨rfl⟩ := H; go_wp2
       repeat (go_quiet (fail); try go_wp2)
       go_ret; exact ⟨by first | rfl | (simp; done) | (simp [*]; done), by repeat (first | exact Drawn0.refl _ | apply Drawn0.step)⟩
 · rw [if_neg c3] at H
   have c3b0 : ((l0.length : Int) == (l1.length : Int)) = false := beq_eq_false_iff_ne.mpr c3; have c3b1 : ((l0.length : Int) != (l1.length : Int)) = true := bne_iff_ne.mpr c3; (have c3b2 : (l0.length == l1.length) = false := by first | simpa using c3 | (simp at c3 ⊢; omega)); obtain rfl := oJ_ H; simp only [oI_, pI_] at H; obtain ⟨rfl⟩ := H; (go_enter Tryd.func11, Tryd.ntmps11); go_wp2
   repeat (go_quiet (fail); try go_wp2)
   go_ret; exact ⟨by first | rfl | (simp; done) | (simp [*]; done), by repeat (first | exact Drawn0.refl _ | apply Drawn0.step)⟩
def q06_Ints.l0 : Nat → List Int → List Int → Int → Option (Bool)
  | 0, _, _, _ => none
  | k + 1, x0, x1, x5 => if x5 < (x0.length : Int) then (if 0 ≤ x5 then (if x5 < (x1.length : Int) then (if (rd x0 x5) = (rd x1 x5) then (q06_Ints.l0 k x0 x1 (wrap64 (x5 + 1))) else (some false)) else (none)) else (none)) else (some true)
def q06_Ints.f (k : Nat) (l0 : List Int) (l1 : List Int) : Option (Bool) := if (l0.length : Int) = (l1.length : Int) then (q06_Ints.l0 k l0 l1 0) else (some false)
theorem q06_Ints.mono_l : ∀ k, (∀ y0 y1 y2, LeO (q06_Ints.l0 k y0 y1 y2) (q06_Ints.l0 (k + 1) y0 y1 y2))
  | 0 => fun _ _ _ r h => by simp [q06_Ints.l0] at h
  | k + 1 => by
    have ih0 := q06_Ints.mono_l k
    · intro y0 y1 y2
      unfold q06_Ints.l0
      repeat' first
      | (with_reducible exact ih0 _ _ _)
      | (with_reducible exact LeO.refl _)
      | (with_reducible exact LeO.none _)
      | (with_reducible refine LeO.ite ?_ ?_)
      | (with_reducible refine LeO.bind ?_ (fun _ => ?_))
      | exact ih0 _ _ _
      | exact LeO.none _
      | refine LeO.ite ?_ ?_
      | refine LeO.bind ?_ (fun _ => ?_)
theorem q06_Ints.mono : ∀ a0 a1 k, LeO (q06_Ints.f k a0 a1) (q06_Ints.f (k + 1) a0 a1) := by
 intro a0 a1 k; have ih0 := q06_Ints.mono_l k; unfold q06_Ints.f
 repeat' first
     | (with_reducible exact ih0 _ _ _)
     | (with_reducible exact LeO.refl _)
     | (with_reducible exact LeO.none _)
     | (with_reducible refine LeO.ite ?_ ?_)
     | (with_reducible refine LeO.bind ?_ (fun _ => ?_))
     | exact ih0 _ _ _
     | exact LeO.none _
     | refine LeO.ite ?_ ?_
     | refine LeO.bind ?_ (fun _ => ?_)
theorem q06_Ints.calls (k : Nat) (A0 : Option Addr) (c0 : Nat) (l0 : List Int) (A1 : Option Addr) (c1 : Nat) (l1 : List Int) (r : Bool) (w : World) (hr0 : Kd.C (Kd.int .i64) w A0 l0.length l0) (hc0 : l0.length ≤ c0) (hr1 : Kd.C (Kd.int .i64) w A1 l1.length l1) (hc1 : l1.length ≤ c1) (h : q06_Ints.f k l0 l1 = some r) :
    Calls Tryd.prog 12 #[.slice A0 l0.length c0, .slice A1 l1.length c1] w fun e w' => e = .returned (.bool r) ∧ Drawn0 w w' := by
 have HR0 := aM_ hr0; have HC0 := aM_ hc0; clear hr0 hc0; have HR1 := aM_ hr1; have HC1 := aM_ hc1; clear hr1 hc1; have H : (if (l0.length : Int) = (l1.length : Int) then (q06_Ints.l0 k l0 l1 0) else (some false)) = some r := h; clear h; (by_cases c3 : (l0.length : Int) = (l1.length : Int))
 · rw [if_pos c3] at H
   have c3b0 : ((l0.length : Int) == (l1.length : Int)) = true := beq_iff_eq.mpr c3; have c3b1 : ((l0.length : Int) != (l1.length : Int)) = false := bne_eq_false_iff_eq.mpr c3; (have c3b2 : (l0.length == l1.length) = true := by first | simpa using c3 | (simp at c3 ⊢; omega)); clear c3; have H' := aM_ H; clear H; (go_enter Tryd.func12, Tryd.ntmps12); go_wp2
   repeat (go_quiet (fail); try go_wp2)
   (go_loopg [5] k (fun kq v5 w' => ∃ (x5_1 : Int), v5 = .int .i64 x5_1 ∧ Aside0 (q06_Ints.l0 kq l0 l1 x5_1 = some r) ∧ Aside0 (kq ≤ k) ∧ Drawn0 w w'))
   case atStart => exact ⟨(0), (by first | rfl | (simp; done) | (simp [*]; done)), H', ⟨Nat.le_refl _⟩, by repeat (first | exact Drawn0.refl _ | apply Drawn0.step)⟩
   case round =>
    clear H'; (try clear c1); (try clear p2); (try clear c3); (try clear c3b0); (try clear c3b1); (try clear c3b2); obtain ⟨x5_1, rfl, HA, HK1, ⟨m1, rfl⟩⟩ := hrel
    cases gk with
    | zero => exact absurd HA.out (by simp [q06_Ints.l0])
    | succ k1 =>
     have H := HA.out; clear HA; simp only [q06_Ints.l0] at H; (by_cases c4 : x5_1 < (l0.length : Int))
     · rw [if_pos c4] at H
       have c4b0 : decide (x5_1 < (l0.length : Int)) = true := dT_ c4; clear c4; (by_cases c5 : 0 ≤ x5_1)
       · rw [if_pos c5] at H
         have c5b0 : decide (0 ≤ x5_1) = true := dT_ c5; clear c5; (by_cases c6 : x5_1 < (l1.length : Int))
         · rw [if_pos c6] at H
           have c6b0 : decide (x5_1 < (l1.length : Int)) = true := dT_ c6; clear c6; (by_cases c7 : (rd l0 x5_1) = (rd l1 x5_1))
           · rw [if_pos c7] at H
             have c7b0 : ((rd l0 x5_1) == (rd l1 x5_1)) = true := beq_iff_eq.mpr c7; have c7b1 : ((rd l0 x5_1) != (rd l1 x5_1)) = false := bne_eq_false_iff_eq.mpr c7; clear c7; have H' := aM_ H; clear H; have p131 : 0 ≤ (x5_1 : Int) := oD_ (by assumption); have q131 : x5_1 < (l0.length : Int) := oD_ (by assumption); obtain ⟨ad131, e131, hx131_0⟩ := Kd.at_int HR0.out x5_1 p131 q131; (cases e131); replace p131 := eq_true p131; replace q131 := eq_true q131; have p132 : 0 ≤ (x5_1 : Int) := oD_ (by assumption); have q132 : x5_1 < (l1.length : Int) := oD_ (by assumption); obtain ⟨ad132, e132, hx132_0⟩ := Kd.at_int HR1.out x5_1 p132 q132; (cases e132); replace p132 := eq_true p132; replace q132 := eq_true q132; go_wp2
             repeat (go_quiet (fail); try go_wp2)
             (go_roundg k1)
             case measure => have := HK1.out; omega
             case rel => exact ⟨(wrap64 (x5_1 + 1)), (by first | rfl | (simp; done) | (simp [*]; done)), H', ⟨by have := HK1.out; omega⟩, by repeat (first | exact Drawn0.refl _ | apply Drawn0.step)⟩
           · rw [if_neg c7] at H
             have c7b0 : ((rd l0 x5_1) == (rd l1 x5_1)) = false := beq_eq_false_iff_ne.mpr c7; have c7b1 : ((rd l0 x5_1) != (rd l1 x5_1)) = true := bne_iff_ne.mpr c7; obtain rfl := oJ_ H; simp only [oI_, pI_] at H; obtain ⟨rfl⟩ := H; have p131 : 0 ≤ (x5_1 : Int) := oD_ (by assumption); have q131 : x5_1 < (l0.length : Int) := oD_ (by assumption); obtain ⟨ad131, e131, hx131_0⟩ := Kd.at_int HR0.out x5_1 p131 q131; (cases e131); replace p131 := eq_true p131; replace q131 := eq_true q131; have p132 : 0 ≤ (x5_1 : Int) := oD_ (by assumption); have q132 : x5_1 < (l1.length : Int) := oD_ (by assumption); obtain ⟨ad132, e132, hx132_0⟩ := Kd.at_int HR1.out x5_1 p132 q132; (cases e132); replace p132 := eq_true p132; replace q132 := eq_true q132; go_wp2
             repeat (go_quiet (fail); try go_wp2)
             go_ret; exact ⟨by first | rfl | (simp; done) | (simp [*]; done), by repeat (first | exact Drawn0.refl _ | apply Drawn0.step)⟩
         (· rw [if_neg c6] at H; exact absurd H (by simp))
       (· rw [if_neg c5] at H; exact absurd H (by simp))
     · rw [if_neg c4] at H
       have c4b0 : decide (x5_1 < (l0.length : Int)) = false := decide_eq_false c4; clear c4; obtain rfl := oJ_ H; simp only [oI_, pI_] at H; obtain ⟨rfl⟩ := H; go_wp2
       repeat (go_quiet (fail); try go_wp2)
       go_ret; exact ⟨by first | rfl | (simp; done) | (simp [*]; done), by repeat (first | exact Drawn0.refl _ | apply Drawn0.step)⟩
 · rw [if_neg c3] at H
   have c3b0 : ((l0.length : Int) == (l1.length : Int)) = false := beq_eq_false_iff_ne.mpr c3; have c3b1 : ((l0.length : Int) != (l1.length : Int)) = true := bne_iff_ne.mpr c3; (have c3b2 : (l0.length == l1.length) = false := by first | simpa using c3 | (simp at c3 ⊢; omega)); obtain rfl := oJ_ H; simp only [oI_, pI_] at H; obtain ⟨rfl⟩ := H; (go_enter Tryd.func12, Tryd.ntmps12); go_wp2
   repeat (go_quiet (fail); try go_wp2)
   go_ret; exact ⟨by first | rfl | (simp; done) | (simp [*]; done), by repeat (first | exact Drawn0.refl _ | apply Drawn0.step)⟩
def uInt (d : DataW Unit) : Int := match d with | .lit (.int _ n) => n | _ => 0
abbrev uZ : DataW Unit := .lit (.int .i64 0)
def uStay (D0 A : DataW Unit) (k : Lit) : Bool := if Go.Maps.has D0 k = true then (if Go.Maps.has A k = true then !(uInt (A.atKey k uZ) == uInt (D0.atKey k uZ)) else true) else Go.Maps.has A k
def uDK (D0 A : DataW Unit) : List (List UInt8) := ((strKeys A ++ (strKeys D0).filter fun l => !Go.Maps.has A (.string l)).filter fun l => uStay D0 A (.string l)).mergeSort (fun x y => decide (x ≤ y))
def uDN (D0 A : DataW Unit) : List ByteArray := (uDK D0 A).map fun l => ⟨l.toArray⟩
def uDM (D0 A : DataW Unit) : List Int := (uDK D0 A).map (uAt A)
def Dif (Dout A D0 : DataW Unit) (left : Lit → Bool) : Prop := (∀ k, Go.Maps.has Dout k = if left k = true then Go.Maps.has A k else uStay D0 A k) ∧ ∀ k z, Go.Maps.has Dout k = true → Dout.atKey k z = A.atKey k uZ
def UM (D : DataW Unit) : Prop := ∃ es, D = .map es ∧ es.Pairwise (fun p q => p.1 ≠ q.1) ∧ ∀ p ∈ es, ∃ x, p.1 = .string x
theorem UM.of_own {b n : Nat} {D : DataW Unit} {w : World} (h : w.ownsMap Tryd.prog 9 uR b n D) : UM D := by
 obtain ⟨es, hD, hpw, _⟩ := h.entries uK; obtain ⟨es', hD', hko⟩ := h.keysOf; (obtain rfl : es = es' := by rw [hD] at hD'; simpa using hD'); exact ⟨es, hD, hpw, fun p hp => by obtain ⟨v, hv⟩ := hko p hp; obtain ⟨x, _, hx, _⟩ := Go.Maps.keyOf_str Tryd.underlying9 hv; exact ⟨x, hx⟩⟩
theorem UM.isMap {D : DataW Unit} (h : UM D) : Go.Maps.IsMap D := by obtain ⟨es, rfl, _⟩ := h; exact ⟨es, rfl⟩
theorem UM.nodup {D : DataW Unit} (h : UM D) : (strKeys D).Nodup := by
 obtain ⟨es, rfl, hp, hk⟩ := h; show (es.map fun p => strOf p.1).Nodup; refine List.pairwise_map.2 (hp.imp_of_mem fun {p q} hp' hq' hne e => hne ?_); obtain ⟨a, ha⟩ := hk p hp'; obtain ⟨b, hb⟩ := hk q hq'; rw [ha, hb] at e ⊢; exact congrArg _ e
theorem UM.mem {D : DataW Unit} (h : UM D) (x : List UInt8) : x ∈ strKeys D ↔ Go.Maps.has D (.string x) = true := by
 obtain ⟨es, rfl, hp, hk⟩ := h; rw [Go.Maps.has_eq, List.any_eq_true]; show x ∈ es.map (fun p => strOf p.1) ↔ _; rw [List.mem_map]
 constructor
 (· rintro ⟨p, hp', rfl⟩; obtain ⟨a, ha⟩ := hk p hp'; exact ⟨p, hp', by rw [ha]; simp [Lit.sameKey, strOf]⟩); (· rintro ⟨p, hp', hs⟩; obtain ⟨a, ha⟩ := hk p hp'; rw [ha] at hs; exact ⟨p, hp', by rw [ha]; simpa [Lit.sameKey, strOf] using hs⟩)
theorem u_atKey_has {D : DataW Unit} (hm : Go.Maps.IsMap D) {k : Lit} (h : Go.Maps.has D k = true) (z z' : DataW Unit) : D.atKey k z = D.atKey k z' := by
 obtain ⟨es, rfl⟩ := hm; rw [Go.Maps.has_eq] at h
 cases hf : es.find? (fun p => p.1.sameKey k) with
 | none => rw [List.find?_eq_none] at hf; obtain ⟨p, hp, hs⟩ := List.any_eq_true.1 h; exact absurd hs (hf p hp)
 | some p => simp [DataW.atKey, hf]
theorem Dif.start {A D0 : DataW Unit} (hA : UM A) : Dif A A D0 (Go.Maps.has D0) := by
 refine ⟨fun k => ?_, fun k z h => u_atKey_has hA.isMap h _ _⟩; (by_cases e : Go.Maps.has D0 k = true); (· rw [if_pos e]); (· rw [if_neg e]; unfold uStay; rw [if_neg e])
section
variable {Dout A D0 : DataW Unit} {left : Lit → Bool} {l : List UInt8} {c : Int}
theorem dif_same : ¬ ((left (.string l) && !(Lit.string l).sameKey (.string l)) = true) := by simp [Lit.sameKey]
theorem dif_other {k : Lit} (e : k ≠ .string l) : (left k && !k.sameKey (.string l)) = left k := by rw [Go.Maps.sameKey_ne e]; simp
theorem Dif.add (h : Dif Dout A D0 left) (hm : Go.Maps.IsMap Dout) (hl : left (.string l) = true) (hat : ∀ zd, D0.atKey (.string l) zd = .lit (.int .i64 c)) (hA : Go.Maps.has A (.string l) = false) : Dif (Dout.put (.string l) uZ) A D0 (fun z => left z && !z.sameKey (.string l)) := by
 have hd : Go.Maps.has D0 (.string l) = true := Go.Maps.has_true_of_atKey hat; refine ⟨fun k => ?_, fun k z hk => ?_⟩; (· show Go.Maps.has _ k = if (left k && !k.sameKey (.string l)) = true then _ else _; (by_cases e : k = .string l); (· subst e; rw [if_neg dif_same, Go.Maps.has_put_same hm (show WideAt.IsKeyLit (.string l) from trivial)]; unfold uStay; rw [if_pos hd, if_neg (by rw [hA]; decide)]); (· rw [dif_other e, Go.Maps.has_put_other e]; exact h.1 k)); (· (by_cases e : k = .string l); (· subst e; rw [Go.Maps.atKey_put_same hm (show WideAt.IsKeyLit (.string l) from trivial), Go.Maps.atKey_of_not_has hA]); (· rw [Go.Maps.has_put_other e] at hk; rw [Go.Maps.atKey_put_other e]; exact h.2 k z hk))
theorem Dif.strike (h : Dif Dout A D0 left) (hl : left (.string l) = true) (hat : ∀ zd, D0.atKey (.string l) zd = .lit (.int .i64 c)) (hA : Go.Maps.has A (.string l) = true) (he : uInt (A.atKey (.string l) uZ) = c) : Dif (Dout.del (.string l)) A D0 (fun z => left z && !z.sameKey (.string l)) := by
 have hd : Go.Maps.has D0 (.string l) = true := Go.Maps.has_true_of_atKey hat; refine ⟨fun k => ?_, fun k z hk => ?_⟩; (· show Go.Maps.has _ k = if (left k && !k.sameKey (.string l)) = true then _ else _; (by_cases e : k = .string l); (· subst e; rw [if_neg dif_same, Go.Maps.has_del_same]; unfold uStay; rw [if_pos hd, if_pos hA, hat, he]; simp [uInt]); (· rw [dif_other e, Go.Maps.has_del_other e]; exact h.1 k)); (· (by_cases e : k = .string l); (· subst e; rw [Go.Maps.has_del_same] at hk; cases hk); (· rw [Go.Maps.has_del_other e] at hk; rw [Go.Maps.atKey_del_other e]; exact h.2 k z hk))
theorem Dif.stay (h : Dif Dout A D0 left) (hl : left (.string l) = true) (hat : ∀ zd, D0.atKey (.string l) zd = .lit (.int .i64 c)) (hA : Go.Maps.has A (.string l) = true) (he : uInt (A.atKey (.string l) uZ) ≠ c) : Dif Dout A D0 (fun z => left z && !z.sameKey (.string l)) := by
 have hd : Go.Maps.has D0 (.string l) = true := Go.Maps.has_true_of_atKey hat; refine ⟨fun k => ?_, h.2⟩; show Go.Maps.has _ k = if (left k && !k.sameKey (.string l)) = true then _ else _; (by_cases e : k = .string l); (· subst e; rw [if_neg dif_same, h.1, if_pos hl, hA]; unfold uStay; rw [if_pos hd, if_pos hA, hat]; (simpa [uInt] using he)); (· rw [dif_other e]; exact h.1 k)
theorem Dif.keys (h : Dif Dout A D0 left) (hl : ∀ k, left k = false) (ho : UM Dout) (hA : UM A) (hD : UM D0) : uKeys Dout = uDK D0 A := by
 have hmem : ∀ x, x ∈ ((strKeys A ++ (strKeys D0).filter fun l => !Go.Maps.has A (.string l)).filter fun l => uStay D0 A (.string l)) ↔ Go.Maps.has Dout (.string x) = true := by
  intro x; rw [h.1, hl, if_neg (by decide), List.mem_filter]; refine ⟨fun hx => hx.2, fun hx => ⟨?_, hx⟩⟩; rw [List.mem_append, List.mem_filter, hA.mem, hD.mem]; (by_cases e : Go.Maps.has A (.string x) = true); (· exact Or.inl e); (· refine Or.inr ⟨?_, by simpa using e⟩; (by_cases e2 : Go.Maps.has D0 (.string x) = true); (· exact e2); (· unfold uStay at hx; rw [if_neg e2] at hx; exact absurd hx e))
 have hnd : ((strKeys A ++ (strKeys D0).filter fun l => !Go.Maps.has A (.string l)).filter fun l => uStay D0 A (.string l)).Nodup := by
  refine List.Pairwise.filter _ (List.nodup_append.2 ⟨hA.nodup, List.Pairwise.filter _ hD.nodup, fun a ha b hb e => ?_⟩); subst e; have h2 := (List.mem_filter.1 hb).2; rw [(hA.mem a).1 ha] at h2; (cases h2)
 have hp := (List.perm_ext_iff_of_nodup hnd ho.nodup).2 fun x => (hmem x).trans (ho.mem x).symm; exact (mergeSort_of_perm hp).symm
theorem Dif.names (h : Dif Dout A D0 left) (hl : ∀ k, left k = false) (ho : UM Dout) (hA : UM A) (hD : UM D0) : uNames Dout = uDN D0 A := by
 unfold uNames uDN; rw [h.keys hl ho hA hD]
theorem Dif.nums (h : Dif Dout A D0 left) (hl : ∀ k, left k = false) (ho : UM Dout) (hA : UM A) (hD : UM D0) : uNums Dout = uDM D0 A := by
 have hk := h.keys hl ho hA hD; unfold uNums uDM; rw [← hk]; refine List.map_congr_left fun l hx => ?_; have hm : l ∈ strKeys Dout := (List.mergeSort_perm _ _).mem_iff.1 hx; unfold uAt; rw [h.2 _ _ ((ho.mem l).1 hm)]
end
theorem u_next {H : Type} {P : Program} {ops : Array Oper} {rest : List Oper} {o : Oper} {a : Act} {Q : Exit → Act → World → Prop} (w : World) (hg : o.guard = none) (it : Operand) (hop : o.op = Op.next it false) (k e : TypeId) (K : Go.Maps.Keyed P k) (hk : P.underlying k = some .string) (he : P.underlying e = some (.int .i64))
    (b r n : Nat) (D : DataW H) (left : Lit → Bool) (cnt : Nat) (hit : a.eval it = .pointer (some ⟨r, 0, none⟩)) (h : w.ranges P k (plainElem P e) b r n D left cnt)
    (hDone : cnt = 0 → (∀ kl, left kl = false) → wpList P ops Q rest (a.put o.dst (.tuple #[.bool false])) w)
    (hMore : ∀ (s : ByteArray) (c : Int) (w' : World) (cnt' : Nat), keyOf P k (.string s) = some (.string s.data.toList) → left (.string s.data.toList) = true → (∀ zd, D.atKey (.string s.data.toList) zd = .lit (.int .i64 c)) → w'.ranges P k (plainElem P e) b r n D (fun z => left z && !z.sameKey (.string s.data.toList)) cnt' → cnt' < cnt →
      w.grownBy w' (some r) → w'.heap.size = w.heap.size → (Instr.entry (.pointer (some ⟨r, 0, none⟩))).run P w' = .ok (.tuple #[.string s, .int .i64 c]) w' → wpList P ops Q rest (a.put o.dst (.tuple #[.bool true, .string s, .int .i64 c])) w') :
    wpList P ops Q (o :: rest) a w :=
  wpList_next_ranges w hg it hop k K (plainElem P e) Value.string (Value.int .i64) (fun key kl hkey => by obtain ⟨x, rfl, _⟩ := Go.Maps.keyOf_str hk hkey; exact ⟨_, rfl⟩) (fun v y hv => by obtain ⟨c, rfl, _⟩ := plainElem_int_inv he hv; exact ⟨c, rfl⟩)
    b r n D left cnt hit h hDone (fun x c kl y w' cnt' hkey hlk hv hat hrg hlt hgr hsz hen => by
      obtain ⟨x', ex, rfl, _⟩ := Go.Maps.keyOf_str hk hkey
      have e1 : x = ⟨x'.toArray⟩ := by simpa [encStr] using ex
      subst e1
      obtain ⟨c', ec, rfl, _⟩ := plainElem_int_inv he hv
      cases ec
      exact hMore _ c w' cnt' hkey hlk hat hrg hlt hgr hsz hen)
def union_Diff.f (k : Nat) (l0 : List ByteArray) (l1 : List Int) (l2 : List ByteArray) (l3 : List Int) : Option (Bool × List ByteArray × List Int × Int) :=
  (union_whole.f k l0 l1).bind fun p => if p = true then ((union_whole.f k l2 l3).bind fun q => if q = true then (if uOk l0 l1 = true then (if uOk l2 l3 = true then ((obj_PutListing.f k false (uDN (uTab l0 l1 (.map [])) (uTab l2 l3 (.map []))) (uDM (uTab l0 l1 (.map [])) (uTab l2 l3 (.map [])))).bind fun r => if r.2 = 0 then some (false, uDN (uTab l0 l1 (.map [])) (uTab l2 l3 (.map [])), uDM (uTab l0 l1 (.map [])) (uTab l2 l3 (.map [])), 0) else some (false, [], [], 80)) else none) else none) else some (false, [], [], 2)) else some (false, [], [], 2)
theorem union_Diff.mono : ∀ a0 a1 a2 a3 k, LeO (union_Diff.f k a0 a1 a2 a3) (union_Diff.f (k + 1) a0 a1 a2 a3) := by
 intro a0 a1 a2 a3 k; unfold union_Diff.f
 repeat' first
     | (with_reducible exact obj_PutListing.mono _ _ _ _)
     | (with_reducible exact union_whole.mono _ _ _)
     | (with_reducible exact LeO.refl _)
     | (with_reducible exact LeO.none _)
     | (with_reducible refine LeO.ite ?_ ?_)
     | (with_reducible refine LeO.bind ?_ (fun _ => ?_))
theorem union_Diff.calls (k : Nat) (A0 : Option Addr) (c0 : Nat) (l0 : List ByteArray) (A1 : Option Addr) (c1 : Nat) (l1 : List Int) (A2 : Option Addr) (c2 : Nat) (l2 : List ByteArray) (A3 : Option Addr) (c3 : Nat) (l3 : List Int) (r1 : Bool) (r2 : List ByteArray) (r3 : List Int) (r4 : Int) (w : World) (hr0 : Kd.C Kd.string w A0 l0.length l0) (hc0 : l0.length ≤ c0) (hr1 : Kd.C (Kd.int .i64) w A1 l1.length l1) (hc1 : l1.length ≤ c1) (hr2 : Kd.C Kd.string w A2 l2.length l2) (hc2 : l2.length ≤ c2) (hr3 : Kd.C (Kd.int .i64) w A3 l3.length l3) (hc3 : l3.length ≤ c3) (hG : Glob w) (h : union_Diff.f k l0 l1 l2 l3 = some (r1, r2, r3, r4)) :
    Calls Tryd.prog 13 #[.slice A0 l0.length c0, .slice A1 l1.length c1, .slice A2 l2.length c2, .slice A3 l3.length c3] w fun e w' => ∃ v1_ v2_ : Value, e = .returned (.tuple #[.agg #[.bool r1, v1_, v2_], .int .i64 r4]) ∧ Kd.R Kd.string 9 w' w.heap.size (fun _ => True) v1_ r2 ∧ Kd.R (Kd.int .i64) 3 w' w.heap.size (fun _ => True) v2_ r3 ∧ Below w.heap.size w w' := by
 have hu25 := Tryd.underlying25; have HR0 := aM_ hr0; have HC0 := aM_ hc0; have HR1 := aM_ hr1; have HC1 := aM_ hc1; have HR2 := aM_ hr2; have HC2 := aM_ hc2; have HR3 := aM_ hr3; have HC3 := aM_ hc3; have HG := aM_ hG; have HP := aM_ h; clear hr0 hc0 hr1 hc1 hr2 hc2 hr3 hc3 hG h; (go_enter Tryd.func13, Tryd.ntmps13); (go_upto_region 1 with (fail)); obtain ⟨gb, hgb⟩ : ∃ g, w.heap.size = g := ⟨_, rfl⟩; have HB0 : Aside0 (Below gb w (w.alloc (.cells #[.bool false, .slice none 0 0, .slice none 0 0] 25))) := ⟨by rw [← hgb]; exact (Below.refl _ w).alloc (Nat.le_refl _) _⟩; have BK0 : Aside0 ((w.alloc (.cells #[.bool false, .slice none 0 0, .slice none 0 0] 25)).heap[gb]? = some (.cells #[.bool false, .slice none 0 0, .slice none 0 0] 25 (0, 0))) := ⟨by rw [← hgb]; exact blk_new w _⟩; rw [hgb]; have HGB := aM_ hgb; clear hgb; generalize w.alloc (.cells #[.bool false, .slice none 0 0, .slice none 0 0] 25) = w0 at HB0 BK0 ⊢; have hcz0 : w0.cell? ⟨gb, 0, none⟩ = some (.bool false) := (kC_ BK0.out 0).trans rfl; have hcz1 : w0.cell? ⟨gb, 1, none⟩ = some (.slice none 0 0) := (kC_ BK0.out 1).trans rfl; have hcz2 : w0.cell? ⟨gb, 2, none⟩ = some (.slice none 0 0) := (kC_ BK0.out 2).trans rfl; have H := HP.out; unfold union_Diff.f at H; clear HP; obtain ⟨p, HP, H⟩ := Option.bind_eq_some_iff.mp H; have HP := aM_ HP; have CB : ∀ {α : Type} {kd : Kd α} {A : Option Addr} {n : Nat} {xs : List α} {W : World}, Aside0 (Kd.C kd w A n xs) → Aside0 (Below gb w W) → Kd.C kd W A n xs := fun h1 h2 => Kd.C_below h1.out (by have := h2.out; rw [← HGB.out] at this; exact this); (have BS : ∀ {W : World}, Aside0 (Below gb w W) → Below w.heap.size w W := fun h2 => by have := h2.out; rw [← HGB.out] at this; exact this); have GE := aM_ (Nat.le_of_eq HGB.out); have GB : ∀ {W : World}, Aside0 (Below gb w W) → Glob W := fun h2 => Glob.below HG.out (by have := h2.out; rw [← HGB.out] at this; exact this); (go_wp2_with fail); refine (union_whole.calls k A0 c0 l0 A1 c1 l1 p w0 (CB HR0 HB0) HC0.out (CB HR1 HB0) HC1.out (GB HB0) HP.out).mono ?_; rintro e w1 ⟨rfl, hb⟩; have HB1 := aM_ (HB0.out.trans (hb.mono (by have := blk_lt BK0.out; omega))); have BK1 := aM_ (kB_ BK0.out hb); clear hb HB0 BK0 HP hcz0 hcz1 hcz2
 cases p with
 | false =>
  rw [if_neg (by decide)] at H; simp only [oI_, pI_] at H; obtain ⟨rfl, rfl, rfl, rfl⟩ := H; have hcz0 : w1.cell? ⟨gb, 0, none⟩ = some (.bool false) := (kC_ BK1.out 0).trans rfl; have hcz1 : w1.cell? ⟨gb, 1, none⟩ = some (.slice none 0 0) := (kC_ BK1.out 1).trans rfl; have hcz2 : w1.cell? ⟨gb, 2, none⟩ = some (.slice none 0 0) := (kC_ BK1.out 2).trans rfl; have hfz0 := kF_ BK1.out 0; have hfz1 := kF_ BK1.out 1; have hfz2 := kF_ BK1.out 2; go_wp2; refine bodyPost_ret (results_ct rfl _ _ gb 25 #[.bool false, .slice none 0 0, .slice none 0 0] (0, 0) _ rfl (blk_put (cs := #[.bool false, .slice none 0 0, .slice none 0 0]) (blk_put (cs := #[.bool false, .slice none 0 0, .slice none 0 0]) (blk_put (cs := #[.bool false, .slice none 0 0, .slice none 0 0]) BK1.out 0 _ rfl) 1 _ rfl) 2 _ rfl) Tryd.underlying25 rfl (by kernel_rfl)) rfl ?_; exact ⟨_, _, rfl, Kd.R_nil _ _ _ _ _, Kd.R_nil _ _ _ _ _, bS_ (bS_ (bS_ (BS HB1) GE.out) GE.out) GE.out⟩
 | true =>
  rw [if_pos rfl] at H; obtain ⟨q, HQ, H⟩ := Option.bind_eq_some_iff.mp H; have HQ := aM_ HQ; (go_wp2_with fail); refine (union_whole.calls k A2 c2 l2 A3 c3 l3 q w1 (CB HR2 HB1) HC2.out (CB HR3 HB1) HC3.out (GB HB1) HQ.out).mono ?_; rintro e w2 ⟨rfl, hb⟩; have HB2 := aM_ (HB1.out.trans (hb.mono (by have := blk_lt BK1.out; omega))); have BK2 := aM_ (kB_ BK1.out hb); clear hb HB1 BK1 HQ
  cases q with
  | false =>
   rw [if_neg (by decide)] at H; simp only [oI_, pI_] at H; obtain ⟨rfl, rfl, rfl, rfl⟩ := H; have hcz0 : w2.cell? ⟨gb, 0, none⟩ = some (.bool false) := (kC_ BK2.out 0).trans rfl; have hcz1 : w2.cell? ⟨gb, 1, none⟩ = some (.slice none 0 0) := (kC_ BK2.out 1).trans rfl; have hcz2 : w2.cell? ⟨gb, 2, none⟩ = some (.slice none 0 0) := (kC_ BK2.out 2).trans rfl; have hfz0 := kF_ BK2.out 0; have hfz1 := kF_ BK2.out 1; have hfz2 := kF_ BK2.out 2; go_wp2; refine bodyPost_ret (results_ct rfl _ _ gb 25 #[.bool false, .slice none 0 0, .slice none 0 0] (0, 0) _ rfl (blk_put (cs := #[.bool false, .slice none 0 0, .slice none 0 0]) (blk_put (cs := #[.bool false, .slice none 0 0, .slice none 0 0]) (blk_put (cs := #[.bool false, .slice none 0 0, .slice none 0 0]) BK2.out 0 _ rfl) 1 _ rfl) 2 _ rfl) Tryd.underlying25 rfl (by kernel_rfl)) rfl ?_; exact ⟨_, _, rfl, Kd.R_nil _ _ _ _ _, Kd.R_nil _ _ _ _ _, bS_ (bS_ (bS_ (BS HB2) GE.out) GE.out) GE.out⟩
  | true =>
   rw [if_pos rfl] at H; (by_cases c2 : uOk l0 l1 = true)
   case neg => rw [if_neg c2] at H; cases H
   rw [if_pos c2] at H; (by_cases c3 : uOk l2 l3 = true)
   case neg => rw [if_neg c3] at H; cases H
   rw [if_pos c3] at H; have OK1 := aM_ (uOk_out c2); have OK2 := aM_ (uOk_out c3); obtain ⟨⟨r, e2⟩, HR, H⟩ := Option.bind_eq_some_iff.mp H; have HR := aM_ HR; have H := aM_ H; clear c2 c3; (go_wp2_with fail); refine (union_table.calls A0 c0 l0 A1 c1 l1 w2 (CB HR0 HB2) (CB HR1 HB2) OK1.out.1 OK1.out.2.2.1 OK1.out.2.2.2).mono ?_; rintro e w3 ⟨rfl, ht, hb⟩; obtain ⟨m1, hm1⟩ : ∃ g, w2.heap.size = g := ⟨_, rfl⟩; rw [hm1] at ht ⊢; have HB3 := aM_ (HB2.out.trans (hb.mono (by have := blk_lt BK2.out; omega))); have BK3 := aM_ (kB_ BK2.out hb); have HT1 := aM_ ht; have HL1 := aM_ (show gb < m1 by have := blk_lt BK2.out; omega); clear hb ht HB2 BK2 hm1; (go_wp2_with fail); refine (union_table.calls A2 c2 l2 A3 c3 l3 w3 (CB HR2 HB3) (CB HR3 HB3) OK2.out.1 OK2.out.2.2.1 OK2.out.2.2.2).mono ?_; rintro e w4 ⟨rfl, ht, hb⟩; obtain ⟨m2, hm2⟩ : ∃ g, w3.heap.size = g := ⟨_, rfl⟩; (have hL : m1 < m2 := by have := HT1.out.lt; omega); have ht1 := uMap_below HT1.out hb; rw [hm2] at ht ⊢; have HB4 := aM_ (HB3.out.trans (hb.mono (by have := blk_lt BK3.out; omega))); have BK4 := aM_ (kB_ BK3.out hb); have HT2 := aM_ ht; have HL2 := aM_ hL; clear HT1; have HT1 := aM_ ht1; clear hb ht ht1 hL HB3 BK3 hm2; (go_wp2_with fail); refine (AnyW.maps_Clone_owns Tryd.laysClone 9 uR m2 _ _ w4 HT2.out).mono ?_; rintro e w5 ⟨rfl, ho, ht, hb⟩; obtain ⟨m3, hm3⟩ : ∃ g, w4.heap.size = g := ⟨_, rfl⟩; (have hL : m2 < m3 := by have := HT2.out.lt; omega); have ht1 := uMap_below HT1.out hb; rw [hm3] at ho ⊢; have HB5 := aM_ (HB4.out.trans (hb.mono (by have := blk_lt BK4.out; omega))); have BK5 := aM_ (kB_ BK4.out hb); have HO5 := aM_ ho; have HL3 := aM_ hL; clear HT1 HT2; have HT1 := aM_ ht1; have HT2 := aM_ ht; have UA := aM_ (UM.of_own ht); have UD := aM_ (UM.of_own ht1); have SD := aM_ (show Go.Maps.size (uTab l0 l1 (.map [])) ≤ 1048576 by have := ht1.size_le; have := OK1.out.2.1; omega); have SN := aM_ (show l2.length ≤ 1048576 from OK2.out.2.1); clear hb ho ht ht1 hL HB4 BK4 hm3; generalize uTab l0 l1 (.map []) = D0 at *; generalize uTab l2 l3 (.map []) = D2 at *; have hown := HT1.out; obtain ⟨it, hit⟩ : ∃ g, w5.heap.size = g := ⟨_, rfl⟩; have HL4 := aM_ (show m3 < it by have := HO5.out.lt; omega); (go_wp2_with (at_range; refine wpList_range_own _ rfl _ 49 rfl 9 3 uK Tryd.underlying49 _ m1 l0.length D0 rfl hown ?_; intro w6 hrg0 hg0 hs0)); (go_frame); rw [hit] at hrg0 ⊢; have HRG := aM_ hrg0; have HG6 := aM_ hg0; clear hrg0 hg0 hs0 hown hit
   go_loopw [13] (fun _ wr => ∃ (left : Lit → Bool) (cnt nn : Nat) (Dout : DataW Unit), Aside0 (wr.ranges Tryd.prog 9 uR m1 it l0.length D0 left cnt) ∧ Aside0 (wr.ownsMap Tryd.prog 9 uR m2 l2.length D2) ∧ Aside0 (wr.ownsMap Tryd.prog 9 uR m3 nn Dout) ∧ Aside0 (nn + cnt ≤ 2097152) ∧ Aside0 (Dif Dout D2 D0 left) ∧ Aside0 (Below gb w wr) ∧ Aside0 (wr.heap[gb]? = some (.cells #[.bool false, .slice none 0 0, .slice none 0 0] 25 (0, 0))))
     (fun _ wr => wr.rangeLeft m1 it)
   case atStart =>
    refine ⟨_, _, _, _, HRG, ⟨HT2.out.kept HG6.out (by simp)⟩, ⟨HO5.out.kept HG6.out (by simp)⟩, ⟨?_⟩, ⟨Dif.start UA.out⟩, ⟨HB5.out.grown HG6.out (by have := blk_lt BK5.out; omega) (fun j hj => by cases hj)⟩, ⟨blk_grown BK5.out HG6.out (by simp)⟩⟩; have := SD.out; have := SN.out; omega
   case round =>
    obtain ⟨left, cnt, nn, Dout, HRG, HT2, HO, HN, HD, HB, BK⟩ := hrel; have hrg := HRG.out; (go_wp2_with (at_next; refine u_next _ rfl _ rfl 9 3 uK Tryd.underlying9 Tryd.underlying3 m1 it l0.length D0 left cnt rfl hrg ?_ ?_))
    · intro hc0 hl0
      have UO := aM_ (UM.of_own HO.out); have HNm := aM_ (HD.out.names hl0 UO.out UA.out UD.out); have HNu := aM_ (HD.out.nums hl0 UO.out UA.out UD.out); clear hc0 hl0 hrg HRG HT2 HD; generalize uDN D0 D2 = N8 at HNm H HR; generalize uDM D0 D2 = M9 at HNu H HR; (go_upto_region 14 with (fail)); obtain ⟨gl, hgl⟩ : ∃ g, wr.heap.size = g := ⟨_, rfl⟩; have HBa : Aside0 (Below gb w (wr.alloc (.cells #[.bool false, .slice none 0 0, .slice none 0 0] 25))) := ⟨HB.out.alloc (by have := blk_lt BK.out; omega) _⟩; have BKa : Aside0 ((wr.alloc (.cells #[.bool false, .slice none 0 0, .slice none 0 0] 25)).heap[gb]? = some (.cells #[.bool false, .slice none 0 0, .slice none 0 0] 25 (0, 0))) := ⟨kA_ BK.out _⟩; have LKa : Aside0 ((wr.alloc (.cells #[.bool false, .slice none 0 0, .slice none 0 0] 25)).heap[gl]? = some (.cells #[.bool false, .slice none 0 0, .slice none 0 0] 25 (0, 0))) := ⟨by rw [← hgl]; exact blk_new wr _⟩; have HOa := aM_ (HO.out.alloc (.cells #[.bool false, .slice none 0 0, .slice none 0 0] 25)); have HGL := aM_ (show gb < gl by have := blk_lt BK.out; omega); rw [hgl]; clear HB BK HO hgl; generalize wr.alloc (.cells #[.bool false, .slice none 0 0, .slice none 0 0] 25) = wA at HBa BKa LKa HOa ⊢; (go_wp2_with fail); refine (union_rows.calls m3 nn Dout wA HOa.out (by have := HN.out; omega)).mono ?_; rintro e wB ⟨v8, v9, rfl, hv8, hv9, hb⟩; rw [HNm.out] at hv8; rw [HNu.out] at hv9; obtain ⟨A8, q8, e8⟩ := Kd.R_slice hv8; obtain ⟨A9, q9, e9⟩ := Kd.R_slice hv9; subst e8 e9; have HBb := aM_ (HBa.out.trans (hb.mono (by have := blk_lt BKa.out; omega))); have BKb := aM_ (kB_ BKa.out hb); have LKb := aM_ (kB_ LKa.out hb); have HV8 := aM_ (Kd.R_lower (base' := w.heap.size) hv8 (by have := blk_lt BKa.out; have := GE.out; omega)); have HV9 := aM_ (Kd.R_lower (base' := w.heap.size) hv9 (by have := blk_lt BKa.out; have := GE.out; omega)); clear hb hv8 hv9 HBa BKa LKa HOa HNm HNu UO; have hzc0 : wB.cell? ⟨gl, 0, none⟩ = some (.bool false) := (kC_ LKb.out 0).trans rfl; have hzf0 := kF_ LKb.out 0; have hzc1 : wB.cell? ⟨gl, 1, none⟩ = some (.slice none 0 0) := (kC_ LKb.out 1).trans rfl; have hzf1 := kF_ LKb.out 1; have hzc2 : wB.cell? ⟨gl, 2, none⟩ = some (.slice none 0 0) := (kC_ LKb.out 2).trans rfl; have hzf2 := kF_ LKb.out 2; (go_upto_region 15 with (fail)); have LKc := aM_ (blk_put (cs' := #[.bool false, .slice A8 N8.length q8, .slice A9 M9.length q9]) (blk_put (cs' := #[.bool false, .slice A8 N8.length q8, .slice none 0 0]) LKb.out 1 (.slice A8 N8.length q8) rfl) 2 (.slice A9 M9.length q9) rfl); have BKc := aM_ (blk_far (p := ⟨gl, 2, none⟩) (blk_far (p := ⟨gl, 1, none⟩) BKb.out (by have := HGL.out; show gb ≠ gl; omega) (.slice A8 N8.length q8)) (by have := HGL.out; show gb ≠ gl; omega) (.slice A9 M9.length q9)); have HBc := aM_ (bS_ (j := 2) (v := .slice A9 M9.length q9) (bS_ (j := 1) (v := .slice A8 N8.length q8) (BS HBb) (by have := HGL.out; have := GE.out; omega : w.heap.size ≤ gl)) (by have := HGL.out; have := GE.out; omega : w.heap.size ≤ gl))
      have HV8c := aM_ (Kd.R_mono (ok' := fun _ => True) (rF_ (p := ⟨gl, 2, none⟩) (rF_ (p := ⟨gl, 1, none⟩) (Kd.R_types HV8.out LKb.out (by decide)) (fun _ hk => hk.2) (.slice A8 N8.length q8)) (fun _ hk => hk.2) (.slice A9 M9.length q9)) (fun _ hk => trivial)); have HV9c := aM_ (Kd.R_mono (ok' := fun _ => True) (rF_ (p := ⟨gl, 2, none⟩) (rF_ (p := ⟨gl, 1, none⟩) (Kd.R_types HV9.out LKb.out (by decide)) (fun _ hk => hk.2) (.slice A8 N8.length q8)) (fun _ hk => hk.2) (.slice A9 M9.length q9)) (fun _ hk => trivial)); clear hzc0 hzf0 hzc1 hzf1 hzc2 hzf2 LKb BKb HBb HV8 HV9; generalize (wB.setCell ⟨gl, 1, none⟩ (.slice A8 N8.length q8)).setCell ⟨gl, 2, none⟩ (.slice A9 M9.length q9) = wC at LKc BKc HBc HV8c HV9c ⊢; have hzc0 : wC.cell? ⟨gl, 0, none⟩ = some (.bool false) := (kC_ LKc.out 0).trans rfl; have hzf0 := kF_ LKc.out 0; have hzc1 : wC.cell? ⟨gl, 1, none⟩ = some (.slice A8 N8.length q8) := (kC_ LKc.out 1).trans rfl; have hzf1 := kF_ LKc.out 1; have hzc2 : wC.cell? ⟨gl, 2, none⟩ = some (.slice A9 M9.length q9) := (kC_ LKc.out 2).trans rfl; have hzf2 := kF_ LKc.out 2; (go_wp2_with fail); refine (obj_PutListing.calls k false A8 q8 N8 A9 q9 M9 r e2 wC (rR_ HV8c.out).2.2 (rR_ HV8c.out).2.1 (rR_ HV9c.out).2.2 (rR_ HV9c.out).2.1 (Glob.below HG.out HBc.out) HR.out).mono ?_; rintro e wD ⟨v10, rfl, _, hb⟩; have HBd := aM_ (HBc.out.trans (hb.mono HBc.out.size)); have BKd := aM_ (kB_ BKc.out hb); have LKd := aM_ (kB_ LKc.out hb); have HV8d := aM_ (Kd.R_below HV8c.out hb); have HV9d := aM_ (Kd.R_below HV9c.out hb); clear hzc0 hzf0 hzc1 hzf1 hzc2 hzf2 LKc BKc HBc HV8c HV9c hb HR; have H := H.out; have hzc0 : wD.cell? ⟨gl, 0, none⟩ = some (.bool false) := (kC_ LKd.out 0).trans rfl; have hzf0 := kF_ LKd.out 0; have hzc1 : wD.cell? ⟨gl, 1, none⟩ = some (.slice A8 N8.length q8) := (kC_ LKd.out 1).trans rfl; have hzf1 := kF_ LKd.out 1; have hzc2 : wD.cell? ⟨gl, 2, none⟩ = some (.slice A9 M9.length q9) := (kC_ LKd.out 2).trans rfl; have hzf2 := kF_ LKd.out 2; have hyc0 : wD.cell? ⟨gb, 0, none⟩ = some (.bool false) := (kC_ BKd.out 0).trans rfl; have hyf0 := kF_ BKd.out 0; have hyc1 : wD.cell? ⟨gb, 1, none⟩ = some (.slice none 0 0) := (kC_ BKd.out 1).trans rfl; have hyf1 := kF_ BKd.out 1; have hyc2 : wD.cell? ⟨gb, 2, none⟩ = some (.slice none 0 0) := (kC_ BKd.out 2).trans rfl; have hyf2 := kF_ BKd.out 2; (by_cases c1 : e2 = 0)
      case neg =>
       rw [if_neg c1] at H; simp only [oI_, pI_] at H; obtain ⟨rfl, rfl, rfl, rfl⟩ := H; have c1b : (e2 != 0) = true := bne_iff_ne.mpr c1; clear c1; go_wp2; refine bodyPost_ret (results_ct rfl _ _ gb 25 #[.bool false, .slice none 0 0, .slice none 0 0] (0, 0) _ rfl (blk_put (cs := #[.bool false, .slice none 0 0, .slice none 0 0]) (blk_put (cs := #[.bool false, .slice none 0 0, .slice none 0 0]) (blk_put (cs := #[.bool false, .slice none 0 0, .slice none 0 0]) BKd.out 0 _ rfl) 1 _ rfl) 2 _ rfl) Tryd.underlying25 rfl (by kernel_rfl)) rfl ?_; exact ⟨_, _, rfl, Kd.R_nil _ _ _ _ _, Kd.R_nil _ _ _ _ _, bS_ (bS_ (bS_ HBd.out GE.out) GE.out) GE.out⟩
      rw [if_pos c1] at H; simp only [oI_, pI_] at H; obtain ⟨rfl, rfl, rfl, rfl⟩ := H; have c1b : (e2 != 0) = false := bne_eq_false_iff_eq.mpr c1; clear c1; go_wp2; refine bodyPost_ret (results_ct rfl _ _ gb 25 #[.bool false, .slice A8 N8.length q8, .slice A9 M9.length q9] (0, 0) _ rfl (blk_put (cs := #[.bool false, .slice A8 N8.length q8, .slice none 0 0]) (blk_put (cs := #[.bool false, .slice none 0 0, .slice none 0 0]) (blk_put (cs := #[.bool false, .slice none 0 0, .slice none 0 0]) BKd.out 0 _ rfl) 1 _ rfl) 2 _ rfl) Tryd.underlying25 rfl (by kernel_rfl)) rfl ?_; exact ⟨_, _, rfl, Kd.R_mono (rF_ (p := ⟨gb, 2, none⟩) (rF_ (p := ⟨gb, 1, none⟩) (rF_ (p := ⟨gb, 0, none⟩) (Kd.R_types HV8d.out BKd.out (by decide)) (fun _ hk => hk.2) _) (fun _ hk => hk.2) _) (fun _ hk => hk.2) _) (fun _ hk => trivial), Kd.R_mono (rF_ (p := ⟨gb, 2, none⟩) (rF_ (p := ⟨gb, 1, none⟩) (rF_ (p := ⟨gb, 0, none⟩) (Kd.R_types HV9d.out BKd.out (by decide)) (fun _ hk => hk.2) _) (fun _ hk => hk.2) _) (fun _ hk => hk.2) _) (fun _ hk => trivial), bS_ (bS_ (bS_ HBd.out GE.out) GE.out) GE.out⟩
    · intro s c w7 cnt1 hkey hls hat hrg1 hlt hg1 hs1 hen
      have HRG1 := aM_ hrg1; have HT2a := aM_ (HT2.out.kept hg1 (fun e => by have := oJ_ e; have := HL3.out; have := HL4.out; omega)); have HOa := aM_ (HO.out.kept hg1 (fun e => by have := oJ_ e; have := HL4.out; omega)); have HBa := aM_ (HB.out.grown hg1 (by have := blk_lt BK.out; omega) (fun j hj => by cases hj; have := HL1.out; have := HL2.out; have := HL3.out; have := HL4.out; omega)); have BKa := aM_ (blk_grown BK.out hg1 (fun e => by have := oJ_ e; have := HL1.out; have := HL2.out; have := HL3.out; have := HL4.out; omega)); have HAT := aM_ hat; have HLS := aM_ hls; have HLT := aM_ hlt; have hkey := aM_ hkey; have hlk := HT2a.out; clear hrg hrg1 hat hls hlt hg1 hs1 HT2 HO HB BK; have hkey1 := hkey.out; have hroom := aM_ (show nn < maxLen by have := HN.out; unfold maxLen; omega); have hval : Aside0 (uR (.int .i64 0) = some (uZ, [])) := ⟨plainElem_int Tryd.underlying3 (by decide)⟩
      cases hA : Go.Maps.has D2 (.string s.data.toList) with
      | false =>
       have hA' := hA; have HA := aM_ hA; clear hA; (go_wp2_with (first | (at_lookup; refine wpList_lookup_own_ok_int _ rfl _ _ 49 rfl 9 3 .i64 uK Tryd.underlying49 Tryd.underlying3 (Tryd.zeroValue3 _) m2 l2.length D2 rfl hlk _ (.string s.data.toList) rfl hkey1 ?_; intro cA hcA _; rw [hA']; have HCA := aM_ hcA; clear hcA) | (at_mapUpdate; refine wpList_mapUpdate_own _ rfl _ _ _ 49 rfl 9 3 uK Tryd.underlying49 _ m3 nn Dout rfl HOa.out hroom.out _ _ (.string s.data.toList) rfl rfl hkey1 uZ [] hval.out ?_; intro w8 ho8 hg8; have HO8 := aM_ ho8; have HG8 := aM_ hg8; clear ho8 hg8; go_frame))); (go_roundw)
       case rel =>
        refine ⟨_, cnt1, nn + 1, _, ⟨HRG1.out.kept HG8.out (fun e => by have := oJ_ e; have := HL2.out; have := HL3.out; omega) (fun e => by have := oJ_ e; have := HL4.out; omega)⟩, ⟨HT2a.out.kept HG8.out (fun e => by have := oJ_ e; have := HL3.out; omega)⟩, HO8, ⟨by have := HN.out; have := HLT.out; omega⟩, ⟨Dif.add HD.out (UM.of_own HOa.out).isMap HLS.out HAT.out HA.out⟩, ⟨HBa.out.grown HG8.out (by have := blk_lt BKa.out; omega) (fun j hj => by cases hj; have := HL1.out; have := HL2.out; have := HL3.out; omega)⟩, ⟨blk_grown BKa.out HG8.out (fun e => by have := oJ_ e; have := HL1.out; have := HL2.out; have := HL3.out; omega)⟩⟩
       case measure => rw [(HRG1.out.kept HG8.out (fun e => by have := oJ_ e; have := HL2.out; have := HL3.out; omega) (fun e => by have := oJ_ e; have := HL4.out; omega)).left_eq, HRG.out.left_eq]; exact HLT.out
      | true =>
       have hA' := hA; have HA := aM_ hA; clear hA; (go_wp2_with (first | (at_lookup; refine wpList_lookup_own_ok_int _ rfl _ _ 49 rfl 9 3 .i64 uK Tryd.underlying49 Tryd.underlying3 (Tryd.zeroValue3 _) m2 l2.length D2 rfl hlk _ (.string s.data.toList) rfl hkey1 ?_; intro cA hcA _; rw [hA']; have HCA := aM_ hcA; clear hcA) | (at_delete; refine wpList_delete_own _ rfl _ _ 49 9 rfl 3 uK Tryd.underlying49 _ m3 nn Dout rfl HOa.out _ (.string s.data.toList) rfl hkey1 ?_; intro w8 ho8 hg8; have HO8 := aM_ ho8; have HG8 := aM_ hg8.grown; clear ho8 hg8; go_frame)))
       · have HE := aM_ (show uInt (D2.atKey (.string s.data.toList) uZ) = c by have h1 := HCA.out; have h2 : cA = c := (by simpa using (by assumption : (cA == c) = true)); rw [h1]; exact h2)
         (go_roundw)
         case rel =>
          refine ⟨_, cnt1, nn, _, ⟨HRG1.out.kept HG8.out (fun e => by have := oJ_ e; have := HL2.out; have := HL3.out; omega) (fun e => by have := oJ_ e; have := HL4.out; omega)⟩, ⟨HT2a.out.kept HG8.out (fun e => by have := oJ_ e; have := HL3.out; omega)⟩, HO8, ⟨by have := HN.out; have := HLT.out; omega⟩, ⟨Dif.strike HD.out HLS.out HAT.out HA.out HE.out⟩, ⟨HBa.out.grown HG8.out (by have := blk_lt BKa.out; omega) (fun j hj => by cases hj; have := HL1.out; have := HL2.out; have := HL3.out; omega)⟩, ⟨blk_grown BKa.out HG8.out (fun e => by have := oJ_ e; have := HL1.out; have := HL2.out; have := HL3.out; omega)⟩⟩
         case measure => rw [(HRG1.out.kept HG8.out (fun e => by have := oJ_ e; have := HL2.out; have := HL3.out; omega) (fun e => by have := oJ_ e; have := HL4.out; omega)).left_eq, HRG.out.left_eq]; exact HLT.out
       · have HE := aM_ (show uInt (D2.atKey (.string s.data.toList) uZ) ≠ c by have h1 := HCA.out; have h2 : cA ≠ c := (by simpa using (by assumption : (cA == c) = false)); rw [h1]; exact h2)
         (go_roundw)
         case rel => exact ⟨_, cnt1, nn, _, HRG1, HT2a, HOa, ⟨by have := HN.out; have := HLT.out; omega⟩, ⟨Dif.stay HD.out HLS.out HAT.out HA.out HE.out⟩, HBa, BKa⟩
         case measure => rw [HRG1.out.left_eq, HRG.out.left_eq]; exact HLT.out
def slices_Clone_string_string.f (l0 : List ByteArray) : Option (List ByteArray) := if l0.length < 8796093022208 then some l0 else none
set_option maxHeartbeats 4000000 in
theorem slices_Clone_string_string.calls (A0 : Option Addr) (c0 : Nat) (l0 : List ByteArray) (r : List ByteArray) (w : World) (hr0 : Kd.C Kd.string w A0 l0.length l0) (hc0 : l0.length ≤ c0) (h : slices_Clone_string_string.f l0 = some r) :
    Calls Tryd.prog 31 #[.slice A0 l0.length c0] w fun e w' => ∃ v0_ : Value, e = .returned (v0_) ∧ Kd.R Kd.string 9 w' w.heap.size (fun _ => True) v0_ r ∧ Below w.heap.size w w' := by
 have HB := aM_ (Below.refl w.heap.size w); unfold slices_Clone_string_string.f at h; (by_cases c1 : l0.length < 8796093022208)
 · rw [if_pos c1] at h
   obtain rfl := oJ_ h; clear h; (by_cases hA : A0 = none)
   · subst hA
     have hl : l0 = [] := by
      cases l0 with
      | nil => rfl
      | cons x xs =>
       obtain ⟨ad, he, _⟩ := hr0.2.2 (by simp); (cases he)
     subst hl; have heq := fun w => Lib.run_eql_slice_nil (P := Tryd.prog) w 22 9 none 0 c0 0 0 Tryd.underlying22; have HR0 := aM_ hr0; clear hr0 hc0 c1; (go_enter Tryd.func31, Tryd.ntmps31); go_wp2; go_ret; exact ⟨_, rfl, Kd.R_nil _ _ _ _ _, by exact bZ0_ HB.out⟩
   · obtain ⟨a, rfl⟩ := Option.ne_none_iff_exists'.mp hA
     clear hA; have heq := fun w => Lib.run_eql_slice_nil (P := Tryd.prog) w 22 9 (some a) l0.length c0 0 0 Tryd.underlying22; simp only [Option.isNone_some] at heq; have HR0 := aM_ hr0; have HC0 := aM_ hc0; have LM := aM_ c1; clear hr0 hc0 c1; obtain ⟨y1, hy1⟩ : ∃ y_ : List ByteArray, y_ = ([] : List ByteArray) := ⟨_, rfl⟩; have Ny1 := aM_ hy1; clear hy1; obtain ⟨y2, hy2⟩ : ∃ y_ : List ByteArray, y_ = y1 ++ l0 := ⟨_, rfl⟩; have Ny2 := aM_ hy2; clear hy2; (go_enter Tryd.func31, Tryd.ntmps31)
     go_wp2_with (first | ((with_reducible refine gate_dst (N := 5) rfl ?_); refine Kd.R_lit Kd.string _ 9 ?hg (N := 5) ?hd (xs := ([] : List ByteArray)) (inner := []) (ok := fun _ => True) (okp := fun _ => True) ?hr ?hp (fun _ hk => hk) trivial (Below.refl _ _) (Nat.le_refl _) (by simp) ?_; (case hd => rfl); (case hg => rfl); (case hr => first | (go_simp; done) | (go_simp; rfl)); (case hp => exact (Reps.none _ _)); intro v1 w5 ho6 hb hg_ hnew_; clear hg_ hnew_; rw [← Ny1.out] at ho6; have n0_ := aM_ (Kd.R_lower ho6 (bZ_ (bZ0_ HB.out))); have n1_ := aM_ (bT_ (bZ0_ HB.out) hb); clear HB; have HO1 := n0_; have HB := n1_; clear n0_ n1_; clear hb ho6) | ((with_reducible refine gate_builtin (b := .append) (xs := #[.tmp 5, .tmp 6]) rfl ?_); at_builtin; refine Kd.R_append_rows Kd.string (w0 := w) w.heap.size rfl (.tmp 5) (.tmp 6) 22 9 (.string ⟨#[]⟩) 16 rfl Tryd.underlying22 info9 rfl (by decide) (by omega) v1 y1 l0 _ _ _ (fun _ => True) (fun _ => False) rfl rfl ?aO ?aR (fun _ _ h => h) (fun _ h => h.elim) ?aF ?aB ?aS ?aL ?_; (case aR => repeat (first | exact (Kd.C_below HR0.out HB.out) | (with_reducible refine Kd.C_alloc ?_ _) | (with_reducible refine Kd.C_drewN ?_ _) | (with_reducible refine Kd.C_drew ?_))); (case aB => exact (bZ0_ HB.out)); (case aF => exact (fun _ _ => trivial)); (case aO => exact (rZ_ HO1.out)); (case aS => exact (bZ_ (bZ0_ HB.out))); (case aL => have := LM.out; have := Ny1.out; subst this; simp; omega); intro v2 w7 ho hb hg hat; rw [← Ny2.out] at ho; have n0_ := aM_ hb; have n1_ := aM_ ho; clear HB; clear HO1; have HB := n0_; have HO2 := n1_; clear n0_ n1_; clear ho hb hg hat))
     go_ret; (have hfin : y2 = l0 := by rw [Ny2.out, Ny1.out]; rfl); exact ⟨_, rfl, by (with_reducible repeat (first | apply rA_ | apply rN_ | apply rD_)); rw [← hfin]; exact Kd.R_mono HO2.out (fun _ hk => trivial), by exact bZ0_ HB.out⟩
 (· rw [if_neg c1] at h; exact absurd h (by simp))
def slices_Clone_int_int.f (l0 : List Int) : Option (List Int) := if l0.length < 17592186044416 then some l0 else none
set_option maxHeartbeats 4000000 in
theorem slices_Clone_int_int.calls (A0 : Option Addr) (c0 : Nat) (l0 : List Int) (r : List Int) (w : World) (hr0 : Kd.C (Kd.int .i64) w A0 l0.length l0) (hc0 : l0.length ≤ c0) (h : slices_Clone_int_int.f l0 = some r) :
    Calls Tryd.prog 32 #[.slice A0 l0.length c0] w fun e w' => ∃ v0_ : Value, e = .returned (v0_) ∧ Kd.R (Kd.int .i64) 3 w' w.heap.size (fun _ => True) v0_ r ∧ Below w.heap.size w w' := by
 have HB := aM_ (Below.refl w.heap.size w); unfold slices_Clone_int_int.f at h; (by_cases c1 : l0.length < 17592186044416)
 · rw [if_pos c1] at h
   obtain rfl := oJ_ h; clear h; (by_cases hA : A0 = none)
   · subst hA
     have hl : l0 = [] := by
      cases l0 with
      | nil => rfl
      | cons x xs =>
       obtain ⟨ad, he, _⟩ := hr0.2.2 (by simp); (cases he)
     subst hl; have heq := fun w => Lib.run_eql_slice_nil (P := Tryd.prog) w 23 3 none 0 c0 0 0 Tryd.underlying23; have HR0 := aM_ hr0; clear hr0 hc0 c1; (go_enter Tryd.func32, Tryd.ntmps32); go_wp2; go_ret; exact ⟨_, rfl, Kd.R_nil _ _ _ _ _, by exact bZ0_ HB.out⟩
   · obtain ⟨a, rfl⟩ := Option.ne_none_iff_exists'.mp hA
     clear hA; have heq := fun w => Lib.run_eql_slice_nil (P := Tryd.prog) w 23 3 (some a) l0.length c0 0 0 Tryd.underlying23; simp only [Option.isNone_some] at heq; have HR0 := aM_ hr0; have HC0 := aM_ hc0; have LM := aM_ c1; clear hr0 hc0 c1; obtain ⟨y1, hy1⟩ : ∃ y_ : List Int, y_ = ([] : List Int) := ⟨_, rfl⟩; have Ny1 := aM_ hy1; clear hy1; obtain ⟨y2, hy2⟩ : ∃ y_ : List Int, y_ = y1 ++ l0 := ⟨_, rfl⟩; have Ny2 := aM_ hy2; clear hy2; (go_enter Tryd.func32, Tryd.ntmps32)
     go_wp2_with (first | ((with_reducible refine gate_dst (N := 5) rfl ?_); refine Kd.R_lit (Kd.int .i64) _ 3 ?hg (N := 5) ?hd (xs := ([] : List Int)) (inner := []) (ok := fun _ => True) (okp := fun _ => True) ?hr ?hp (fun _ hk => hk) trivial (Below.refl _ _) (Nat.le_refl _) (by simp) ?_; (case hd => rfl); (case hg => rfl); (case hr => first | (go_simp; done) | (go_simp; rfl)); (case hp => exact (Reps.none _ _)); intro v1 w5 ho6 hb hg_ hnew_; clear hg_ hnew_; rw [← Ny1.out] at ho6; have n0_ := aM_ (Kd.R_lower ho6 (bZ_ (bZ0_ HB.out))); have n1_ := aM_ (bT_ (bZ0_ HB.out) hb); clear HB; have HO1 := n0_; have HB := n1_; clear n0_ n1_; clear hb ho6) | ((with_reducible refine gate_builtin (b := .append) (xs := #[.tmp 5, .tmp 6]) rfl ?_); at_builtin; refine Kd.R_append_rows (Kd.int .i64) (w0 := w) w.heap.size rfl (.tmp 5) (.tmp 6) 23 3 (.int .i64 0) 8 rfl Tryd.underlying23 info3 rfl (by decide) (by omega) v1 y1 l0 _ _ _ (fun _ => True) (fun _ => False) rfl rfl ?aO ?aR (fun _ _ h => h) (fun _ h => h.elim) ?aF ?aB ?aS ?aL ?_; (case aR => repeat (first | exact (Kd.C_below HR0.out HB.out) | (with_reducible refine Kd.C_alloc ?_ _) | (with_reducible refine Kd.C_drewN ?_ _) | (with_reducible refine Kd.C_drew ?_))); (case aB => exact (bZ0_ HB.out)); (case aF => exact (fun _ _ => trivial)); (case aO => exact (rZ_ HO1.out)); (case aS => exact (bZ_ (bZ0_ HB.out))); (case aL => have := LM.out; have := Ny1.out; subst this; simp; omega); intro v2 w7 ho hb hg hat; rw [← Ny2.out] at ho; have n0_ := aM_ hb; have n1_ := aM_ ho; clear HB; clear HO1; have HB := n0_; have HO2 := n1_; clear n0_ n1_; clear ho hb hg hat))
     go_ret; (have hfin : y2 = l0 := by rw [Ny2.out, Ny1.out]; rfl); exact ⟨_, rfl, by (with_reducible repeat (first | apply rA_ | apply rN_ | apply rD_)); rw [← hfin]; exact Kd.R_mono HO2.out (fun _ hk => trivial), by exact bZ0_ HB.out⟩
 (· rw [if_neg c1] at h; exact absurd h (by simp))
end Go.Proofs.YtigbmfogfgbmfaaDoor.Fn
