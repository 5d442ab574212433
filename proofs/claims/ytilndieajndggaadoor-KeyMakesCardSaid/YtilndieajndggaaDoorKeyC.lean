import Derived.Test.YtilndieajndggaaDoorKeyB
import Derived.Test.YtilndieajndggaaDoorHx0
import Derived.Test.YtilndieajndggaaDoorHx7
namespace Go.Proofs.YtilndieajndggaaDoor.Pure
open Go.RowKit Go.Proofs.YtilndieajndggaaDoor.Fn Go.Proofs.YtilndieajndggaaDoorW.PrintWords Go.Proofs.YtilndieajndggaaDoorW.PrintLast Go.Proofs.YtilndieajndggaaDoor.U
set_option linter.unusedVariables false
set_option linter.unusedSimpArgs false
theorem refText_all : ∀ n : Fin 256, 0 ≤ (Int.tdiv (n.val : Int) 16) % 256 ∧ ((Int.tdiv (n.val : Int) 16) % 256) + 1 ≤ 16 ∧ 0 ≤ wrap64 (Int.tmod (n.val : Int) 16) ∧ wrap64 (Int.tmod (n.val : Int) 16) ≤ wrap64 (wrap64 (Int.tmod (n.val : Int) 16) + 1) ∧ wrap64 (wrap64 (Int.tmod (n.val : Int) 16) + 1) ≤ 16 ∧
    hexS.extract ((Int.tdiv (n.val : Int) 16) % 256).toNat (((Int.tdiv (n.val : Int) 16) % 256) + 1).toNat = ⟨#[toU (bt hexS ((n.val : Int) / 16))]⟩ ∧
    hexS.extract (wrap64 (Int.tmod (n.val : Int) 16)).toNat (wrap64 (wrap64 (Int.tmod (n.val : Int) 16) + 1)).toNat = ⟨#[toU (bt hexS (Go.bits .and .u8 (n.val : Int) 15))]⟩ := by decide +kernel
theorem refText_nib (x : Int) (h0 : 0 ≤ x) (h1 : x < 256) : 0 ≤ (Int.tdiv x 16) % 256 ∧ ((Int.tdiv x 16) % 256) + 1 ≤ 16 ∧ 0 ≤ wrap64 (Int.tmod x 16) ∧ wrap64 (Int.tmod x 16) ≤ wrap64 (wrap64 (Int.tmod x 16) + 1) ∧ wrap64 (wrap64 (Int.tmod x 16) + 1) ≤ 16 ∧
    hexS.extract ((Int.tdiv x 16) % 256).toNat (((Int.tdiv x 16) % 256) + 1).toNat = ⟨#[toU (bt hexS (x / 16))]⟩ ∧
    hexS.extract (wrap64 (Int.tmod x 16)).toNat (wrap64 (wrap64 (Int.tmod x 16) + 1)).toNat = ⟨#[toU (bt hexS (Go.bits .and .u8 x 15))]⟩ := by
  obtain ⟨n, rfl⟩ := Int.eq_ofNat_of_zero_le h0
  exact refText_all ⟨n, by omega⟩
theorem str_hex (a : List Int) (x : Int) : strOfNums a ++ ⟨#[toU (bt hexS (x / 16))]⟩ ++ ⟨#[toU (bt hexS (Go.bits .and .u8 x 15))]⟩ = strOfNums (a ++ hex2 x) := by
  apply ByteArray.ext
  simp [strOfNums, hex2, toU, ByteArray.data_append]
theorem str_size (a : List Int) : (strOfNums a).size = a.length := by
  show (strOfNums a).data.size = _
  simp [strOfNums]
theorem refText_step (X Y Z : Int) (s h1 h2 : ByteArray) (F : ByteArray → Option ByteArray) (n1 : 0 ≤ X) (n2 : X + 1 ≤ 16) (n3 : 0 ≤ Y) (n4 : Y ≤ Z) (n5 : Z ≤ 16) (n6 : hexS.extract X.toNat (X + 1).toNat = h1) (n7 : hexS.extract Y.toNat Z.toNat = h2)
    (z1 : h1.size = 1) (z2 : h2.size = 1) (hs : s.size + 2 ≤ 9223372036854775807) :
    (if 0 ≤ X then (if X ≤ X + 1 then (if X + 1 ≤ 16 then (if s.size + (hexS.extract X.toNat (X + 1).toNat).size ≤ 9223372036854775807 then (if 0 ≤ Y then (if Y ≤ Z then (if Z ≤ 16 then (if (s ++ hexS.extract X.toNat (X + 1).toNat).size + (hexS.extract Y.toNat Z.toNat).size ≤ 9223372036854775807 then F ((s ++ hexS.extract X.toNat (X + 1).toNat) ++ hexS.extract Y.toNat Z.toNat) else none) else none) else none) else none) else none) else none) else none) else none) = F (s ++ h1 ++ h2) := by
  rw [n6, n7, if_pos n1, if_pos (by omega), if_pos n2, if_pos (by omega), if_pos n3, if_pos n4, if_pos n5, if_pos (by rw [ByteArray.size_append]; omega)]
theorem refText_loop (l : List Int) (hl : l.length < 1099511627776) (hr : ∀ x ∈ l, 0 ≤ x ∧ x < 256) (d : Nat) : ∀ (i : Nat) (out : List Int), i + d = l.length → out.length = 2 * i →
    Ev (fun k => q07_text.l0 k l (strOfNums out) (i : Int)) (strOfNums (out ++ (l.drop i).flatMap hex2)) := by
  induction d with
  | zero =>
    intro i out hi ho
    obtain rfl : i = l.length := by omega
    refine Ev.step (f := fun _ => some (strOfNums (out ++ (l.drop l.length).flatMap hex2))) (fun k => ?_) (Ev.now _)
    simp only [q07_text.l0]
    rw [if_neg (by omega), List.drop_length]
    simp
  | succ d ih =>
    intro i out hi ho
    have hlt : i < l.length := by omega
    have hx := hr (l[i]) (List.getElem_mem hlt)
    have er : rd l (i : Int) = l[i] := by unfold rd; rw [Int.toNat_natCast, List.getD_eq_getElem?_getD, List.getElem?_eq_getElem hlt]; rfl
    have ei : wrap64 ((i : Int) + 1) = ((i + 1 : Nat) : Int) := by rw [w64 (by omega) (by omega)]; omega
    have c1 : (i : Int) < (l.length : Int) := by omega
    have c2 : (0 : Int) ≤ (i : Int) := by omega
    have hz : (strOfNums out).size + 2 ≤ 9223372036854775807 := by rw [str_size]; omega
    have hstep := ih (i + 1) (out ++ hex2 l[i]) (by omega) (by rw [List.length_append, ho]; simp [hex2]; omega)
    rw [List.append_assoc, show hex2 l[i] ++ (l.drop (i + 1)).flatMap hex2 = (l.drop i).flatMap hex2 from by rw [List.drop_eq_getElem_cons hlt, List.flatMap_cons]] at hstep
    refine Ev.step (fun k => ?_) hstep
    rw [← str_hex, ← ei]
    generalize l[i] = x at hx er
    obtain ⟨n1, n2, n3, n4, n5, n6, n7⟩ := refText_nib _ hx.1 hx.2
    have st := refText_step _ _ _ (strOfNums out) _ _ (fun z => q07_text.l0 k l z (wrap64 ((i : Int) + 1))) n1 n2 n3 n4 n5 n6 n7 rfl rfl hz
    simp only [q07_text.l0]
    rw [if_pos c1, if_pos c2, er]
    exact st
theorem refText_ev (l : List Int) (hl : l.length < 1099511627776) (hr : ∀ x ∈ l, 0 ≤ x ∧ x < 256) : Ev (fun k => q07_text.f k l) (hexOf l) := by
  have h := refText_loop l hl hr l.length 0 [] (by omega) rfl
  refine Ev.congr (fun k => ?_) h
  unfold q07_text.f
  rfl
end Go.Proofs.YtilndieajndggaaDoor.Pure
