import Derived.Test.YtfffnogmkbbfkaaDoorO
import Derived.Test.YtfffnogmkbbfkaaDoorU
import Derived.Test.YtfffnogmkbbfkaaDoorHx0
import Derived.Test.YtfffnogmkbbfkaaDoorHx1
import Derived.Test.YtfffnogmkbbfkaaDoorHx3
import Derived.Test.YtfffnogmkbbfkaaDoorHx5
import Derived.Test.YtfffnogmkbbfkaaDoorHx11
import Derived.Test.YtfffnogmkbbfkaaDoorHx13
namespace Go.Proofs.YtfffnogmkbbfkaaDoor.Pure
open Go.RowKit Go.Proofs.YtfffnogmkbbfkaaDoor.Fn Go.Proofs.YtfffnogmkbbfkaaDoorW.PrintWords Go.Proofs.YtfffnogmkbbfkaaDoorW.PrintLast Go.Proofs.YtfffnogmkbbfkaaDoor.U
set_option linter.unusedVariables false
set_option linter.unusedSimpArgs false
def hexS : ByteArray := ⟨#[48, 49, 50, 51, 52, 53, 54, 55, 56, 57, 97, 98, 99, 100, 101, 102]⟩
def hex2 (x : Int) : List Int := [bt hexS (x / 16), bt hexS (Go.bits .and .u8 x 15)]
theorem low_nib (x : Int) (h0 : 0 ≤ x) (h1 : x < 256) : 0 ≤ Go.bits .and .u8 x 15 ∧ Go.bits .and .u8 x 15 < 16 := by
  obtain ⟨n, rfl⟩ := Int.eq_ofNat_of_zero_le h0
  have hn : n < 256 := by omega
  have : ∀ n : Fin 256, 0 ≤ Go.bits .and .u8 (n.val : Int) 15 ∧ Go.bits .and .u8 (n.val : Int) 15 < 16 := by decide +kernel
  exact this ⟨n, hn⟩
theorem text_loop (l : List Int) (hl : l.length < 1099511627776) (hr : ∀ x ∈ l, 0 ≤ x ∧ x < 256) (d : Nat) : ∀ (i : Nat) (out : List Int), i + d = l.length → out.length = 2 * i →
    Ev (fun k => key_text.l0 k out l (l.length : Int) (i : Int)) (strOfNums (out ++ (l.drop i).flatMap hex2)) := by
  induction d with
  | zero =>
    intro i out hi ho
    obtain rfl : i = l.length := by omega
    refine Ev.step (f := fun _ => some (strOfNums (out ++ (l.drop l.length).flatMap hex2))) (fun k => ?_) (Ev.now _)
    simp only [key_text.l0]
    rw [if_neg (by omega), List.drop_length]
    simp
  | succ d ih =>
    intro i out hi ho
    have hlt : i < l.length := by omega
    have hx := hr (l[i]) (List.getElem_mem hlt)
    have er : rd l (i : Int) = l[i] := by unfold rd; rw [Int.toNat_natCast, List.getD_eq_getElem?_getD, List.getElem?_eq_getElem hlt]; rfl
    have hb := low_nib _ hx.1 hx.2
    have ei : wrap64 ((i : Int) + 1) = ((i + 1 : Nat) : Int) := by rw [w64 (by omega) (by omega)]; omega
    have h16 : 0 ≤ l[i] / 16 ∧ l[i] / 16 < 16 := by omega
    have hstep := ih (i + 1) (out ++ hex2 l[i]) (by omega) (by rw [List.length_append, ho]; simp [hex2]; omega)
    rw [List.append_assoc, show hex2 l[i] ++ (l.drop (i + 1)).flatMap hex2 = (l.drop i).flatMap hex2 from by rw [List.drop_eq_getElem_cons hlt, List.flatMap_cons]] at hstep
    refine Ev.step (fun k => ?_) hstep
    simp only [key_text.l0]
    rw [if_pos (by omega), if_pos (by omega), if_pos (by omega), er, if_pos h16.1, if_pos h16.2, if_pos hb.1, if_pos hb.2, Option.bind_some, if_pos (by rw [ho]; simp; omega), ei]
    rfl
def hexOf (l : List Int) : ByteArray := strOfNums (l.flatMap hex2)
theorem text_ev (l : List Int) (hl : l.length < 1099511627776) (hr : ∀ x ∈ l, 0 ≤ x ∧ x < 256) : Ev (fun k => key_text.f k l) (hexOf l) := by
  have h := text_loop l hl hr l.length 0 [] (by omega) rfl
  refine Ev.congr (fun k => ?_) h
  unfold key_text.f
  rw [w64 (x := 2 * (l.length : Int)) (by omega) (by omega), if_pos (by omega), if_pos (by omega)]
  rfl
def toU (n : Int) : UInt8 := UInt8.ofNat n.toNat
theorem nib_all : ∀ n : Fin 256, 16 * dg (toU (bt hexS ((n.val : Int) / 16))) + dg (toU (bt hexS (Go.bits .and .u8 (n.val : Int) 15))) = (n.val : Int) ∧ digs.contains (toU (bt hexS ((n.val : Int) / 16))) = true ∧ digs.contains (toU (bt hexS (Go.bits .and .u8 (n.val : Int) 15))) = true := by decide +kernel
theorem nib (x : Int) (h0 : 0 ≤ x) (h1 : x < 256) : 16 * dg (toU (bt hexS (x / 16))) + dg (toU (bt hexS (Go.bits .and .u8 x 15))) = x ∧ digs.contains (toU (bt hexS (x / 16))) = true ∧ digs.contains (toU (bt hexS (Go.bits .and .u8 x 15))) = true := by
  obtain ⟨n, rfl⟩ := Int.eq_ofNat_of_zero_le h0
  exact nib_all ⟨n, by omega⟩
def hexL (s : List Int) : List UInt8 := (s.flatMap hex2).map toU
theorem hexL_cons (x : Int) (s : List Int) : hexL (x :: s) = toU (bt hexS (x / 16)) :: toU (bt hexS (Go.bits .and .u8 x 15)) :: hexL s := rfl
theorem hexOf_list (s : List Int) : (hexOf s).data.toList = hexL s := by
  unfold hexOf strOfNums hexL
  rfl
theorem hexL_length : ∀ s : List Int, (hexL s).length = 2 * s.length
  | [] => rfl
  | x :: s => by rw [hexL_cons, List.length_cons, List.length_cons, hexL_length s, List.length_cons]; omega
theorem hexL_digs : ∀ s : List Int, (∀ x ∈ s, 0 ≤ x ∧ x < 256) → (hexL s).all (digs.contains ·) = true
  | [], _ => rfl
  | x :: s, h => by
    have hx := nib x (h x List.mem_cons_self).1 (h x List.mem_cons_self).2
    rw [hexL_cons, List.all_cons, List.all_cons, hx.2.1, hx.2.2, hexL_digs s (fun y hy => h y (List.mem_cons_of_mem _ hy))]
    rfl
theorem isKey_hex (s : List Int) (h : ∀ x ∈ s, 0 ≤ x ∧ x < 256) (hl : s.length = 32) : isKey (hexOf s) = true := by
  have e : (hexOf s).size = 64 := by
    have := hexL_length s
    rw [← hexOf_list, Array.length_toList] at this
    exact this.trans (by omega)
  unfold isKey
  rw [hexOf_list, hexL_digs s h, decide_eq_true e]
  rfl
theorem refText_all : ∀ n : Fin 256, 0 ≤ (Int.tdiv (n.val : Int) 16) % 256 ∧ ((Int.tdiv (n.val : Int) 16) % 256) + 1 ≤ 16 ∧ 0 ≤ wrap64 (Int.tmod (n.val : Int) 16) ∧ wrap64 (Int.tmod (n.val : Int) 16) ≤ wrap64 (wrap64 (Int.tmod (n.val : Int) 16) + 1) ∧ wrap64 (wrap64 (Int.tmod (n.val : Int) 16) + 1) ≤ 16 ∧
    hexS.extract ((Int.tdiv (n.val : Int) 16) % 256).toNat (((Int.tdiv (n.val : Int) 16) % 256) + 1).toNat = ⟨#[toU (bt hexS ((n.val : Int) / 16))]⟩ ∧
    hexS.extract (wrap64 (Int.tmod (n.val : Int) 16)).toNat (wrap64 (wrap64 (Int.tmod (n.val : Int) 16) + 1)).toNat = ⟨#[toU (bt hexS (Go.bits .and .u8 (n.val : Int) 15))]⟩ := by decide +kernel
theorem refText_nib (x : Int) (h0 : 0 ≤ x) (h1 : x < 256) : 0 ≤ (Int.tdiv x 16) % 256 ∧ ((Int.tdiv x 16) % 256) + 1 ≤ 16 ∧ 0 ≤ wrap64 (Int.tmod x 16) ∧ wrap64 (Int.tmod x 16) ≤ wrap64 (wrap64 (Int.tmod x 16) + 1) ∧ wrap64 (wrap64 (Int.tmod x 16) + 1) ≤ 16 ∧
    hexS.extract ((Int.tdiv x 16) % 256).toNat (((Int.tdiv x 16) % 256) + 1).toNat = ⟨#[toU (bt hexS (x / 16))]⟩ ∧
    hexS.extract (wrap64 (Int.tmod x 16)).toNat (wrap64 (wrap64 (Int.tmod x 16) + 1)).toNat = ⟨#[toU (bt hexS (Go.bits .and .u8 x 15))]⟩ := by
  obtain ⟨n, rfl⟩ := Int.eq_ofNat_of_zero_le h0
  exact refText_all ⟨n, by omega⟩
theorem str_hex (a : List Int) (x : Int) : strOfNums a ++ ⟨#[toU (bt hexS (x / 16))]⟩ ++ ⟨#[toU (bt hexS (Go.bits .and .u8 x 15))]⟩ = strOfNums (a ++ hex2 x) := by
  apply ByteArray.ext
  simp [strOfNums, hex2, toU, ByteArray.data_append]
theorem str_size (a : List Int) : (strOfNums a).size = a.length := by
  show (strOfNums a).data.size = _
  simp [strOfNums]
theorem refText_step (X Y Z : Int) (s h1 h2 : ByteArray) (F : ByteArray → Option ByteArray) (n1 : 0 ≤ X) (n2 : X + 1 ≤ 16) (n3 : 0 ≤ Y) (n4 : Y ≤ Z) (n5 : Z ≤ 16) (n6 : hexS.extract X.toNat (X + 1).toNat = h1) (n7 : hexS.extract Y.toNat Z.toNat = h2)
    (z1 : h1.size = 1) (z2 : h2.size = 1) (hs : s.size + 2 ≤ 9223372036854775807) :
    (if 0 ≤ X then (if X ≤ X + 1 then (if X + 1 ≤ 16 then (if s.size + (hexS.extract X.toNat (X + 1).toNat).size ≤ 9223372036854775807 then (if 0 ≤ Y then (if Y ≤ Z then (if Z ≤ 16 then (if (s ++ hexS.extract X.toNat (X + 1).toNat).size + (hexS.extract Y.toNat Z.toNat).size ≤ 9223372036854775807 then F ((s ++ hexS.extract X.toNat (X + 1).toNat) ++ hexS.extract Y.toNat Z.toNat) else none) else none) else none) else none) else none) else none) else none) else none) = F (s ++ h1 ++ h2) := by
  rw [n6, n7, if_pos n1, if_pos (by omega), if_pos n2, if_pos (by omega), if_pos n3, if_pos n4, if_pos n5, if_pos (by rw [ByteArray.size_append]; omega)]
theorem refText_loop (l : List Int) (hl : l.length < 1099511627776) (hr : ∀ x ∈ l, 0 ≤ x ∧ x < 256) (d : Nat) : ∀ (i : Nat) (out : List Int), i + d = l.length → out.length = 2 * i →
    Ev (fun k => q07_text.l0 k l (strOfNums out) (i : Int)) (strOfNums (out ++ (l.drop i).flatMap hex2)) := by
  induction d with
  | zero =>
    intro i out hi ho
    obtain rfl : i = l.length := by omega
    refine Ev.step (f := fun _ => some (strOfNums (out ++ (l.drop l.length).flatMap hex2))) (fun k => ?_) (Ev.now _)
    simp only [q07_text.l0]
    rw [if_neg (by omega), List.drop_length]
    simp
  | succ d ih =>
    intro i out hi ho
    have hlt : i < l.length := by omega
    have hx := hr (l[i]) (List.getElem_mem hlt)
    have er : rd l (i : Int) = l[i] := by unfold rd; rw [Int.toNat_natCast, List.getD_eq_getElem?_getD, List.getElem?_eq_getElem hlt]; rfl
    have ei : wrap64 ((i : Int) + 1) = ((i + 1 : Nat) : Int) := by rw [w64 (by omega) (by omega)]; omega
    have c1 : (i : Int) < (l.length : Int) := by omega
    have c2 : (0 : Int) ≤ (i : Int) := by omega
    have hz : (strOfNums out).size + 2 ≤ 9223372036854775807 := by rw [str_size]; omega
    have hstep := ih (i + 1) (out ++ hex2 l[i]) (by omega) (by rw [List.length_append, ho]; simp [hex2]; omega)
    rw [List.append_assoc, show hex2 l[i] ++ (l.drop (i + 1)).flatMap hex2 = (l.drop i).flatMap hex2 from by rw [List.drop_eq_getElem_cons hlt, List.flatMap_cons]] at hstep
    refine Ev.step (fun k => ?_) hstep
    rw [← str_hex, ← ei]
    generalize l[i] = x at hx er
    obtain ⟨n1, n2, n3, n4, n5, n6, n7⟩ := refText_nib _ hx.1 hx.2
    have st := refText_step _ _ _ (strOfNums out) _ _ (fun z => q07_text.l0 k l z (wrap64 ((i : Int) + 1))) n1 n2 n3 n4 n5 n6 n7 rfl rfl hz
    simp only [q07_text.l0]
    rw [if_pos c1, if_pos c2, er]
    exact st
theorem refText_ev (l : List Int) (hl : l.length < 1099511627776) (hr : ∀ x ∈ l, 0 ≤ x ∧ x < 256) : Ev (fun k => q07_text.f k l) (hexOf l) := by
  have h := refText_loop l hl hr l.length 0 [] (by omega) rfl
  refine Ev.congr (fun k => ?_) h
  unfold q07_text.f
  rfl
def fromOf (l : List Int) : ByteArray × Int := if (l.length : Int) = 32 then (hexOf l, 0) else (⟨#[]⟩, 70)
theorem from_ev (l : List Int) (hb : ∀ x ∈ l, 0 ≤ x ∧ x < 256) (hl : l.length < 1099511627776) : Ev (fun k => key_From.f k l) (fromOf l) := by
  unfold key_From.f fromOf
  by_cases h : (l.length : Int) = 32
  · simp only [if_pos h]
    exact Ev.bind (f := fun _ t => some (t, (0 : Int))) (text_ev l hl hb) (Ev.now _)
  · simp only [if_neg h]
    exact Ev.now _
theorem refFrom_ev (l : List Int) (hb : ∀ x ∈ l, 0 ≤ x ∧ x < 256) (hl : l.length < 1099511627776) : Ev (fun k => q07_From.f k l) (fromOf l) := by
  unfold q07_From.f fromOf
  by_cases h : (l.length : Int) = 32
  · simp only [if_pos h]
    exact Ev.bind (f := fun _ t => some (t, (0 : Int))) (refText_ev l hl hb) (Ev.now _)
  · simp only [if_neg h]
    exact Ev.now _
theorem keyBytes_all (s : ByteArray) : key_Bytes.f s = some (if isKey s then (keyRow s, 0) else ([], 70)) := by
  unfold key_Bytes.f
  cases isKey s <;> rfl
theorem keyCheck_all (s : ByteArray) : key_Check.f s = some (isKey s) := by
  unfold key_Check.f
  rw [keyBytes_all]
  cases isKey s <;> rfl
theorem hexS_dg_all : ∀ n : Fin 16, toU (bt hexS (n.val : Int)) = digs.getD n.val 0 := by decide +kernel
theorem dg_back_all : ∀ c ∈ digs, digs.getD (dg c).toNat 0 = c := by decide +kernel
theorem low_dg (p q : Int) (h0 : 0 ≤ p) (h1 : p ≤ 15) (h2 : 0 ≤ q) (h3 : q ≤ 15) : Go.bits .and .u8 (16 * p + q) 15 = q ∧ (16 * p + q) / 16 = p := by
  have : ∀ n m : Fin 16, Go.bits .and .u8 (16 * (n.1 : Int) + (m.1 : Int)) 15 = (m.1 : Int) := by decide +kernel
  have h := this ⟨p.toNat, by omega⟩ ⟨q.toNat, by omega⟩
  have e1 : ((p.toNat : Nat) : Int) = p := Int.toNat_of_nonneg h0
  have e2 : ((q.toNat : Nat) : Int) = q := Int.toNat_of_nonneg h2
  rw [e1, e2] at h
  exact ⟨h, by omega⟩
theorem dg_back (c : UInt8) (h : digs.contains c = true) : toU (bt hexS (dg c)) = c := by
  have hr := dg_range c h
  have h1 := hexS_dg_all ⟨(dg c).toNat, by omega⟩
  rw [show (((⟨(dg c).toNat, by omega⟩ : Fin 16).val : Nat) : Int) = dg c from Int.toNat_of_nonneg hr.1] at h1
  rw [h1]
  exact dg_back_all c (by simpa using h)
theorem hexL_pairs : ∀ (n : Nat) (l : List UInt8), l.length = 2 * n → (∀ c ∈ l, digs.contains c = true) → hexL ((List.range n).map fun j => 16 * dg (l.getD (2 * j) 0) + dg (l.getD (2 * j + 1) 0)) = l
  | 0, l, hl, _ => by
    have : l = [] := List.eq_nil_of_length_eq_zero (by omega)
    subst this; rfl
  | n + 1, l, hl, hc => by
    match l, hl, hc with
    | x :: y :: l, hl, hc =>
      have hx := hc x (by simp)
      have hy := hc y (by simp)
      have rx := dg_range x hx
      have ry := dg_range y hy
      have ih := hexL_pairs n l (by simp at hl; omega) (fun c h => hc c (by simp [h]))
      obtain ⟨lo, hi⟩ := low_dg (dg x) (dg y) rx.1 rx.2 ry.1 ry.2
      rw [List.range_succ_eq_map, List.map_cons, List.map_map, hexL_cons]
      have e : ((fun j => 16 * dg ((x :: y :: l).getD (2 * j) 0) + dg ((x :: y :: l).getD (2 * j + 1) 0)) ∘ Nat.succ) = fun j => 16 * dg (l.getD (2 * j) 0) + dg (l.getD (2 * j + 1) 0) := by
        funext j
        show 16 * dg ((x :: y :: l).getD (2 * (j + 1)) 0) + dg ((x :: y :: l).getD (2 * (j + 1) + 1) 0) = _
        rw [show 2 * (j + 1) = 2 * j + 1 + 1 from by omega, List.getD_cons_succ, List.getD_cons_succ, List.getD_cons_succ, List.getD_cons_succ]
      rw [e, ih]
      show toU (bt hexS ((16 * dg x + dg y) / 16)) :: toU (bt hexS (Go.bits .and .u8 (16 * dg x + dg y) 15)) :: l = _
      rw [lo, hi, dg_back x hx, dg_back y hy]
theorem isKey_parts {s : ByteArray} (h : isKey s = true) : s.size = 64 ∧ ∀ c ∈ s.data.toList, digs.contains c = true := by
  unfold isKey at h
  rw [Bool.and_eq_true, decide_eq_true_eq, List.all_eq_true] at h
  exact h
theorem hexOf_keyRow {s : ByteArray} (h : isKey s = true) : hexOf (keyRow s) = s := by
  obtain ⟨h1, h2⟩ := isKey_parts h
  have hl : s.data.toList.length = 2 * 32 := by rw [Array.length_toList]; exact h1
  have e : keyRow s = (List.range 32).map fun j => 16 * dg (s.data.toList.getD (2 * j) 0) + dg (s.data.toList.getD (2 * j + 1) 0) := by
    unfold keyRow keyAt
    apply List.map_congr_left
    intro j hj
    have := List.mem_range.1 hj
    rw [if_pos (by omega), if_pos (by omega)]
  have h3 := hexL_pairs 32 s.data.toList hl h2
  rw [← e, ← hexOf_list] at h3
  apply ByteArray.ext
  apply Array.toList_inj.1
  exact h3
theorem keyRow_length (s : ByteArray) : (keyRow s).length = 32 := keyAt_length _ _
theorem keyRow_range {s : ByteArray} (h : isKey s = true) : ∀ x ∈ keyRow s, 0 ≤ x ∧ x < 256 := by
  obtain ⟨h1, h2⟩ := isKey_parts h
  have hl : s.data.toList.length = 64 := by rw [Array.length_toList]; exact h1
  intro x hx
  unfold keyRow keyAt at hx
  obtain ⟨j, hj, rfl⟩ := List.mem_map.1 hx
  have := List.mem_range.1 hj
  rw [if_pos (by omega), if_pos (by omega)]
  have g : ∀ i, i < 64 → digs.contains (s.data.toList.getD i 0) = true := fun i hi => by
    rw [List.getD_eq_getElem?_getD, List.getElem?_eq_getElem (by omega)]
    exact h2 _ (List.getElem_mem _)
  have r1 := dg_range _ (g (2 * j) (by omega))
  have r2 := dg_range _ (g (2 * j + 1) (by omega))
  omega
end Go.Proofs.YtfffnogmkbbfkaaDoor.Pure
