import Derived.Test.YtjjbofbkpmabbaaShaC
import Derived.Test.YtjjbofbkpmabbaaHx0
import Derived.Test.YtjjbofbkpmabbaaHx2
import Derived.Test.YtjjbofbkpmabbaaHx4
import Derived.Test.YtjjbofbkpmabbaaHx5
import Derived.Test.YtjjbofbkpmabbaaHx9
import Derived.Test.YtjjbofbkpmabbaaHx12
namespace Go.Proofs.Ytjjbofbkpmabbaa.Pure
open Go.RowKit Go.Proofs.Ytjjbofbkpmabbaa.Fn Go.Proofs.YtjjbofbkpmabbaaW.PrintWords Go.Proofs.YtjjbofbkpmabbaaW.PrintLast Go.Proofs.Ytjjbofbkpmabbaa.U
set_option linter.unusedVariables false
set_option linter.unusedSimpArgs false
def hexS : ByteArray := ⟨#[48, 49, 50, 51, 52, 53, 54, 55, 56, 57, 97, 98, 99, 100, 101, 102]⟩
def hex2 (x : Int) : List Int := [bt hexS (x / 16), bt hexS (Go.bits .and .u8 x 15)]
theorem low_nib (x : Int) (h0 : 0 ≤ x) (h1 : x < 256) : 0 ≤ Go.bits .and .u8 x 15 ∧ Go.bits .and .u8 x 15 < 16 := by
  obtain ⟨n, rfl⟩ := Int.eq_ofNat_of_zero_le h0
  have hn : n < 256 := by omega
  have : ∀ n : Fin 256, 0 ≤ Go.bits .and .u8 (n.val : Int) 15 ∧ Go.bits .and .u8 (n.val : Int) 15 < 16 := by decide +kernel
  exact this ⟨n, hn⟩
theorem text_loop (l : List Int) (hl : l.length < 1099511627776) (hr : ∀ x ∈ l, 0 ≤ x ∧ x < 256) (d : Nat) : ∀ (i : Nat) (out : List Int), i + d = l.length → out.length = 2 * i →
    Ev (fun k => key_text.l0 k out l (l.length : Int) (i : Int)) (strOfNums (out ++ (l.drop i).flatMap hex2)) := by
  induction d with
  | zero =>
    intro i out hi ho
    obtain rfl : i = l.length := by omega
    refine Ev.step (f := fun _ => some (strOfNums (out ++ (l.drop l.length).flatMap hex2))) (fun k => ?_) (Ev.now _)
    simp only [key_text.l0]
    rw [if_neg (by omega), List.drop_length]
    simp
  | succ d ih =>
    intro i out hi ho
    have hlt : i < l.length := by omega
    have hx := hr (l[i]) (List.getElem_mem hlt)
    have er : rd l (i : Int) = l[i] := by unfold rd; rw [Int.toNat_natCast, List.getD_eq_getElem?_getD, List.getElem?_eq_getElem hlt]; rfl
    have hb := low_nib _ hx.1 hx.2
    have ei : wrap64 ((i : Int) + 1) = ((i + 1 : Nat) : Int) := by rw [w64 (by omega) (by omega)]; omega
    have h16 : 0 ≤ l[i] / 16 ∧ l[i] / 16 < 16 := by omega
    have hstep := ih (i + 1) (out ++ hex2 l[i]) (by omega) (by rw [List.length_append, ho]; simp [hex2]; omega)
    rw [List.append_assoc, show hex2 l[i] ++ (l.drop (i + 1)).flatMap hex2 = (l.drop i).flatMap hex2 from by rw [List.drop_eq_getElem_cons hlt, List.flatMap_cons]] at hstep
    refine Ev.step (fun k => ?_) hstep
    simp only [key_text.l0]
    rw [if_pos (by omega), if_pos (by omega), if_pos (by omega), er, if_pos h16.1, if_pos h16.2, if_pos hb.1, if_pos hb.2, Option.bind_some, if_pos (by rw [ho]; simp; omega), ei]
    rfl
def hexOf (l : List Int) : ByteArray := strOfNums (l.flatMap hex2)
theorem text_ev (l : List Int) (hl : l.length < 1099511627776) (hr : ∀ x ∈ l, 0 ≤ x ∧ x < 256) : Ev (fun k => key_text.f k l) (hexOf l) := by
  have h := text_loop l hl hr l.length 0 [] (by omega) rfl
  refine Ev.congr (fun k => ?_) h
  unfold key_text.f
  rw [w64 (x := 2 * (l.length : Int)) (by omega) (by omega), if_pos (by omega), if_pos (by omega)]
  rfl
theorem write_ini (l : List Int) (hl : l.length < 140737488355328) : sha_Write.f iniV [] 0 l = some ((eatV kWords l.length iniV l).1, (eatV kWords l.length iniV l).2, (l.length : Int)) := by
  have h := write_some (l := l) check_ini (by simpa using hl)
  rw [List.nil_append, wrap_u64 (x := (l.length : Int)) (by omega) (by omega), wrap_u64 (by omega) (by omega), Int.zero_add] at h
  exact h
theorem write_one (x : Int) : sha_Write.f iniV [] 0 [x] = some (iniV, [x], 1) := by
  rw [write_ini [x] (by simp), eatV_stop _ _ _ _ (by simp)]; rfl
theorem check_one (x : Int) : sha_Check.f iniV [x] 1 = some true := by rfl
theorem write_two (x : Int) (l : List Int) (hl : l.length < 140737488355000) : sha_Write.f iniV [x] 1 l = some ((eatV kWords (x :: l).length iniV (x :: l)).1, (eatV kWords (x :: l).length iniV (x :: l)).2, ((x :: l).length : Int)) := by
  have h := write_some (l := l) (check_one x) (by simp; omega)
  rw [List.singleton_append, wrap_u64 (x := (l.length : Int)) (by omega) (by omega), wrap_u64 (by omega) (by omega)] at h
  rw [h]
  simp; omega
theorem check_two (x : Int) (l : List Int) (hl : l.length < 140737488355000) : sha_Check.f (eatV kWords (x :: l).length iniV (x :: l)).1 (eatV kWords (x :: l).length iniV (x :: l)).2 ((x :: l).length : Int) = some true := by
  have h := check_write (l := l) (check_one x) (by decide) (by simp; omega)
  rw [List.singleton_append, wrap_u64 (x := (l.length : Int)) (by omega) (by omega), wrap_u64 (by omega) (by omega)] at h
  rw [show ((x :: l).length : Int) = 1 + (l.length : Int) from by simp; omega]
  exact h
def sumOf (l : List Int) : List Int := doneV (eatV kWords l.length iniV l).1 (eatV kWords l.length iniV l).2 (l.length : Int)
theorem sumOf_range (l : List Int) : ∀ x ∈ sumOf l, 0 ≤ x ∧ x < 256 := outV_range _
theorem eat_length (l : List Int) : (eatV kWords l.length iniV l).1.length = 8 := (eatV_length kWords _ iniV _ (by decide) (Nat.le_refl _)).1
theorem sumOf_length (l : List Int) : (sumOf l).length = 32 := by
  unfold sumOf doneV
  rw [outV_length, (eatV_length kWords _ _ _ (eat_length l) (Nat.le_refl _)).1]
def keyOf (a : Int) (l : List Int) : ByteArray := hexOf (sumOf (a % 256 :: l))
theorem keyOf_ev (a : Int) (l : List Int) (hl : l.length < 140737488355000) : Ev (fun k => key_Of.f k a l) (keyOf a l) := by
  refine Ev.bind new_ev ?_
  refine Ev.congr (f := fun k => (sha_Done.f k (eatV kWords (a % 256 :: l).length iniV (a % 256 :: l)).1 (eatV kWords (a % 256 :: l).length iniV (a % 256 :: l)).2 ((a % 256 :: l).length : Int)).bind fun t170 => ((key_text.f k t170).bind fun t173 => (some t173))) (fun k => ?_) (Ev.bind (shaDone_ev _ _ _ (check_two _ l hl)) (Ev.bind (f := fun _ t => some t) (text_ev (sumOf (a % 256 :: l)) (by rw [sumOf_length]; decide) (sumOf_range _)) (Ev.now _)))
  show (sha_Write.f iniV [] 0 [a % 256]).bind _ = _
  rw [write_one, Option.bind_some]
  dsimp only
  rw [write_two _ l hl, Option.bind_some]
def toU (n : Int) : UInt8 := UInt8.ofNat n.toNat
theorem bytes_Ws {l : List Int} (h : ∀ x ∈ l, 0 ≤ x ∧ x < 256) : Ws l := fun x hx => ⟨(h x hx).1, by have := (h x hx).2; omega⟩
theorem refSum_ev (l : List Int) (hW : Ws l) (hl : l.length < 140737488355328) (hc : sha_Check.f (eatV kWords l.length iniV l).1 (eatV kWords l.length iniV l).2 (l.length : Int) = some true) : Ev (fun k => q04_Sum.f k l) (sumOf l) := by
  have hw := refWrite_ev iniV [] l 0 iniV_Ws (fun x hx => by simp at hx) hW (write_ini l hl)
  obtain ⟨w1, w2⟩ := eatV_Ws kWords l.length iniV l iniV_Ws hW
  exact Ev.bind (f := fun k (bt : List Int × List Int × Int) => (q04_Done.f k bt.1 bt.2.1 bt.2.2).bind fun t => some t) hw (Ev.bind (f := fun _ t => some t) (refDone_ev _ _ _ w1 w2 hc) (Ev.now _))
theorem refText_all : ∀ n : Fin 256, 0 ≤ (Int.tdiv (n.val : Int) 16) % 256 ∧ ((Int.tdiv (n.val : Int) 16) % 256) + 1 ≤ 16 ∧ 0 ≤ wrap64 (Int.tmod (n.val : Int) 16) ∧ wrap64 (Int.tmod (n.val : Int) 16) ≤ wrap64 (wrap64 (Int.tmod (n.val : Int) 16) + 1) ∧ wrap64 (wrap64 (Int.tmod (n.val : Int) 16) + 1) ≤ 16 ∧
    hexS.extract ((Int.tdiv (n.val : Int) 16) % 256).toNat (((Int.tdiv (n.val : Int) 16) % 256) + 1).toNat = ⟨#[toU (bt hexS ((n.val : Int) / 16))]⟩ ∧
    hexS.extract (wrap64 (Int.tmod (n.val : Int) 16)).toNat (wrap64 (wrap64 (Int.tmod (n.val : Int) 16) + 1)).toNat = ⟨#[toU (bt hexS (Go.bits .and .u8 (n.val : Int) 15))]⟩ := by decide +kernel
theorem refText_nib (x : Int) (h0 : 0 ≤ x) (h1 : x < 256) : 0 ≤ (Int.tdiv x 16) % 256 ∧ ((Int.tdiv x 16) % 256) + 1 ≤ 16 ∧ 0 ≤ wrap64 (Int.tmod x 16) ∧ wrap64 (Int.tmod x 16) ≤ wrap64 (wrap64 (Int.tmod x 16) + 1) ∧ wrap64 (wrap64 (Int.tmod x 16) + 1) ≤ 16 ∧
    hexS.extract ((Int.tdiv x 16) % 256).toNat (((Int.tdiv x 16) % 256) + 1).toNat = ⟨#[toU (bt hexS (x / 16))]⟩ ∧
    hexS.extract (wrap64 (Int.tmod x 16)).toNat (wrap64 (wrap64 (Int.tmod x 16) + 1)).toNat = ⟨#[toU (bt hexS (Go.bits .and .u8 x 15))]⟩ := by
  obtain ⟨n, rfl⟩ := Int.eq_ofNat_of_zero_le h0
  exact refText_all ⟨n, by omega⟩
theorem str_hex (a : List Int) (x : Int) : strOfNums a ++ ⟨#[toU (bt hexS (x / 16))]⟩ ++ ⟨#[toU (bt hexS (Go.bits .and .u8 x 15))]⟩ = strOfNums (a ++ hex2 x) := by
  apply ByteArray.ext
  simp [strOfNums, hex2, toU, ByteArray.data_append]
theorem str_size (a : List Int) : (strOfNums a).size = a.length := by
  show (strOfNums a).data.size = _
  simp [strOfNums]
theorem refText_step (X Y Z : Int) (s h1 h2 : ByteArray) (F : ByteArray → Option ByteArray) (n1 : 0 ≤ X) (n2 : X + 1 ≤ 16) (n3 : 0 ≤ Y) (n4 : Y ≤ Z) (n5 : Z ≤ 16) (n6 : hexS.extract X.toNat (X + 1).toNat = h1) (n7 : hexS.extract Y.toNat Z.toNat = h2)
    (z1 : h1.size = 1) (z2 : h2.size = 1) (hs : s.size + 2 ≤ 9223372036854775807) :
    (if 0 ≤ X then (if X ≤ X + 1 then (if X + 1 ≤ 16 then (if s.size + (hexS.extract X.toNat (X + 1).toNat).size ≤ 9223372036854775807 then (if 0 ≤ Y then (if Y ≤ Z then (if Z ≤ 16 then (if (s ++ hexS.extract X.toNat (X + 1).toNat).size + (hexS.extract Y.toNat Z.toNat).size ≤ 9223372036854775807 then F ((s ++ hexS.extract X.toNat (X + 1).toNat) ++ hexS.extract Y.toNat Z.toNat) else none) else none) else none) else none) else none) else none) else none) else none) = F (s ++ h1 ++ h2) := by
  rw [n6, n7, if_pos n1, if_pos (by omega), if_pos n2, if_pos (by omega), if_pos n3, if_pos n4, if_pos n5, if_pos (by rw [ByteArray.size_append]; omega)]
theorem refText_loop (l : List Int) (hl : l.length < 1099511627776) (hr : ∀ x ∈ l, 0 ≤ x ∧ x < 256) (d : Nat) : ∀ (i : Nat) (out : List Int), i + d = l.length → out.length = 2 * i →
    Ev (fun k => q07_text.l0 k l (strOfNums out) (i : Int)) (strOfNums (out ++ (l.drop i).flatMap hex2)) := by
  induction d with
  | zero =>
    intro i out hi ho
    obtain rfl : i = l.length := by omega
    refine Ev.step (f := fun _ => some (strOfNums (out ++ (l.drop l.length).flatMap hex2))) (fun k => ?_) (Ev.now _)
    simp only [q07_text.l0]
    rw [if_neg (by omega), List.drop_length]
    simp
  | succ d ih =>
    intro i out hi ho
    have hlt : i < l.length := by omega
    have hx := hr (l[i]) (List.getElem_mem hlt)
    have er : rd l (i : Int) = l[i] := by unfold rd; rw [Int.toNat_natCast, List.getD_eq_getElem?_getD, List.getElem?_eq_getElem hlt]; rfl
    have ei : wrap64 ((i : Int) + 1) = ((i + 1 : Nat) : Int) := by rw [w64 (by omega) (by omega)]; omega
    have c1 : (i : Int) < (l.length : Int) := by omega
    have c2 : (0 : Int) ≤ (i : Int) := by omega
    have hz : (strOfNums out).size + 2 ≤ 9223372036854775807 := by rw [str_size]; omega
    have hstep := ih (i + 1) (out ++ hex2 l[i]) (by omega) (by rw [List.length_append, ho]; simp [hex2]; omega)
    rw [List.append_assoc, show hex2 l[i] ++ (l.drop (i + 1)).flatMap hex2 = (l.drop i).flatMap hex2 from by rw [List.drop_eq_getElem_cons hlt, List.flatMap_cons]] at hstep
    refine Ev.step (fun k => ?_) hstep
    rw [← str_hex, ← ei]
    generalize l[i] = x at hx er
    obtain ⟨n1, n2, n3, n4, n5, n6, n7⟩ := refText_nib _ hx.1 hx.2
    have st := refText_step _ _ _ (strOfNums out) _ _ (fun z => q07_text.l0 k l z (wrap64 ((i : Int) + 1))) n1 n2 n3 n4 n5 n6 n7 rfl rfl hz
    simp only [q07_text.l0]
    rw [if_pos c1, if_pos c2, er]
    exact st
theorem refText_ev (l : List Int) (hl : l.length < 1099511627776) (hr : ∀ x ∈ l, 0 ≤ x ∧ x < 256) : Ev (fun k => q07_text.f k l) (hexOf l) := by
  have h := refText_loop l hl hr l.length 0 [] (by omega) rfl
  refine Ev.congr (fun k => ?_) h
  unfold q07_text.f
  rfl
end Go.Proofs.Ytjjbofbkpmabbaa.Pure
