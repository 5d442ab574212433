import Derived.Test.YtigbmfogfgbmfaaDoorUnA
import Derived.Test.YtigbmfogfgbmfaaDoorHx0
import Derived.Test.YtigbmfogfgbmfaaDoorHx3
import Derived.Test.YtigbmfogfgbmfaaDoorHx4
import Derived.Test.YtigbmfogfgbmfaaDoorHx5
import Derived.Test.YtigbmfogfgbmfaaDoorHx8
import Derived.Test.YtigbmfogfgbmfaaDoorHx10
import Derived.Test.YtigbmfogfgbmfaaDoorHx11
import Derived.Test.YtigbmfogfgbmfaaDoorHx12
namespace Go.Proofs.YtigbmfogfgbmfaaDoor.Pure
open Go.RowKit Go.Proofs.YtigbmfogfgbmfaaDoor.Fn Go.Proofs.YtigbmfogfgbmfaaDoorW.PrintWords Go.Proofs.YtigbmfogfgbmfaaDoorW.PrintLast Go.Proofs.YtigbmfogfgbmfaaDoor.U
set_option linter.unusedVariables false
set_option linter.unusedSimpArgs false
def val (D : DataW Unit) (x : List UInt8) : Option Int := if Go.Maps.has D (.string x) = true then some (uInt (D.atKey (.string x) uZ)) else none
def UI (D : DataW Unit) : Prop := ∃ es, D = .map es ∧ es.Pairwise (fun p q => p.1 ≠ q.1) ∧ ∀ p ∈ es, ∃ x v, p = (.string x, .lit (.int .i64 v))
theorem UI.um {D : DataW Unit} (h : UI D) : UM D := by
  obtain ⟨es, e, hp, hk⟩ := h
  exact ⟨es, e, hp, fun p hp' => by obtain ⟨x, v, rfl⟩ := hk p hp'; exact ⟨x, rfl⟩⟩
theorem UI.empty : UI (.map []) := ⟨[], rfl, List.Pairwise.nil, fun _ h => by cases h⟩
theorem UI.put {D : DataW Unit} (h : UI D) (x : List UInt8) (v : Int) : UI (D.put (.string x) (.lit (.int .i64 v))) := by
  obtain ⟨es, rfl, hp, hk⟩ := h
  obtain ⟨es', e', hp'⟩ := Go.Maps.Tidy.put (D := .map es) ⟨es, rfl, hp⟩ (k := .string x) (show WideAt.IsKeyLit (.string x) from trivial) (.lit (.int .i64 v))
  refine ⟨es', e', hp', fun p hm => ?_⟩
  have e2 : es' = DataW.insert (Lit.string x, .lit (.int .i64 v)) (es.filter fun p => !p.1.sameKey (.string x)) := by
    have : (DataW.map es).put (.string x) (.lit (.int .i64 v)) = .map (DataW.insert (Lit.string x, .lit (.int .i64 v)) (es.filter fun p => !p.1.sameKey (.string x))) := rfl
    rw [this] at e'
    injection e' with e'
    exact e'.symm
  rw [e2] at hm
  rcases Go.ChangeMaps.mem_insert_iff.1 hm with rfl | hm
  · exact ⟨x, v, rfl⟩
  · exact hk p (List.mem_filter.1 hm).1
theorem val_empty (x : List UInt8) : val (.map []) x = none := rfl
theorem val_put {D : DataW Unit} (h : UI D) (y x : List UInt8) (v : Int) : val (D.put (.string y) (.lit (.int .i64 v))) x = if y = x then some v else val D x := by
  have hm := h.um.isMap
  unfold val
  by_cases e : y = x
  · subst e
    rw [if_pos rfl, Go.Maps.has_put_same hm (show WideAt.IsKeyLit (.string y) from trivial), if_pos rfl, Go.Maps.atKey_put_same hm (show WideAt.IsKeyLit (.string y) from trivial)]
    rfl
  · have hne : Lit.string x ≠ Lit.string y := fun h => e (by injection h with h; exact h.symm)
    rw [if_neg e, Go.Maps.has_put_other hne, Go.Maps.atKey_put_other hne]
theorem rises_notin {s : ByteArray} {ss : List ByteArray} (h : Rises (s :: ss)) : toL s ∉ ss.map toL := by
  intro hm
  obtain ⟨t, ht, e⟩ := List.mem_map.1 hm
  have := (List.pairwise_cons.1 h).1 t ht
  have h' : Op.bytesLess (toL s) (toL t) = true := this
  rw [e, bytesLess_irrefl] at h'
  cases h'
theorem tab_val : ∀ (l : List ByteArray) (n : List Int) (D : DataW Unit), UI D → UI (uTab l n D) ∧ (Rises l → ∀ x, val (uTab l n D) x = (numL l n x).or (val D x))
  | [], n, D, h => ⟨by cases n <;> exact h, fun _ x => by cases n <;> simp [uTab, numL]⟩
  | s :: ss, [], D, h => ⟨h, fun _ x => by simp [uTab, numL]⟩
  | s :: ss, v :: vs, D, h => by
    have h2 : UI (uPut D s v) := h.put _ v
    obtain ⟨i1, i2⟩ := tab_val ss vs (uPut D s v) h2
    refine ⟨i1, fun hr x => ?_⟩
    show val (uTab ss vs (uPut D s v)) x = _
    rw [i2 (List.pairwise_cons.1 hr).2 x, show val (uPut D s v) x = if toL s = x then some v else val D x from val_put h _ x v, show numL (s :: ss) (v :: vs) x = if toL s = x then some v else numL ss vs x from rfl]
    by_cases c : toL s = x
    · have hno : numL ss vs x = none := by
        cases hc : numL ss vs x with
        | none => rfl
        | some w => exact absurd (c ▸ (numL_mem hc).1) (rises_notin hr)
      rw [if_pos c, if_pos c, hno]; rfl
    · rw [if_neg c, if_neg c]
theorem tab0 (l : List ByteArray) (n : List Int) (hr : Rises l) (x : List UInt8) : val (uTab l n (.map [])) x = numL l n x := by
  rw [(tab_val l n _ UI.empty).2 hr, val_empty]; simp
theorem tabUI (l : List ByteArray) (n : List Int) : UI (uTab l n (.map [])) := (tab_val l n _ UI.empty).1
theorem val_cons (y : List UInt8) (v : Int) (es : List (Lit × DataW Unit)) (x : List UInt8) : val (.map ((.string y, .lit (.int .i64 v)) :: es)) x = if y = x then some v else val (.map es) x := by
  unfold val
  rw [Go.Maps.has_eq, Go.Maps.has_eq, List.any_cons]
  by_cases e : y = x
  · subst e
    simp [Lit.sameKey, DataW.atKey, uInt]
  · have hk : (Lit.string y).sameKey (.string x) = false := by simp [Lit.sameKey, e]
    have ha : (DataW.map ((Lit.string y, (.lit (.int .i64 v) : DataW Unit)) :: es)).atKey (.string x) uZ = (DataW.map es).atKey (.string x) uZ := by unfold DataW.atKey; dsimp only; rw [List.find?_cons_of_neg (by show ¬ (Lit.string y).sameKey (.string x) = true; rw [hk]; decide)]
    rw [ha, if_neg e]
    show (if ((Lit.string y).sameKey (.string x) || _) = true then _ else _) = _
    rw [hk, Bool.false_or]
theorem val_none {es : List (Lit × DataW Unit)} {y : List UInt8} (h : ∀ p ∈ es, p.1 ≠ .string y) : val (.map es) y = none := by
  unfold val
  rw [Go.Maps.has_eq, if_neg]
  intro hc
  obtain ⟨p, hp, hs⟩ := List.any_eq_true.1 hc
  exact h p hp (WideAt.sameKey_eq hs)
theorem merge_fold : ∀ (es : List (Lit × DataW Unit)), es.Pairwise (fun p q => p.1 ≠ q.1) → (∀ p ∈ es, ∃ x v, p = (.string x, .lit (.int .i64 v))) → ∀ D, UI D → UI (es.foldl (fun D p => D.put p.1 p.2) D) ∧ ∀ x, val (es.foldl (fun D p => D.put p.1 p.2) D) x = (val (.map es) x).or (val D x)
  | [], _, _, D, h => ⟨h, fun x => by rw [val_empty]; rfl⟩
  | p :: es, hp, hk, D, h => by
    obtain ⟨y, v, rfl⟩ := hk p (by simp)
    obtain ⟨h1, h2⟩ := List.pairwise_cons.1 hp
    obtain ⟨i1, i2⟩ := merge_fold es h2 (fun q hq => hk q (by simp [hq])) _ (h.put y v)
    refine ⟨i1, fun x => ?_⟩
    rw [List.foldl_cons, i2 x, val_put h, val_cons]
    by_cases e : y = x
    · subst e
      rw [if_pos rfl, if_pos rfl, val_none (fun q hq e => h1 q hq e.symm)]; rfl
    · rw [if_neg e, if_neg e]
theorem mergeD_val {S : DataW Unit} (hS : UI S) {D : DataW Unit} (hD : UI D) : UI (Lib.mergeD D S) ∧ ∀ x, val (Lib.mergeD D S) x = (val S x).or (val D x) := by
  obtain ⟨es, rfl, hp, hk⟩ := hS
  exact merge_fold es hp hk D hD
theorem filter_val : ∀ (es : List (Lit × DataW Unit)), es.Pairwise (fun p q => p.1 ≠ q.1) → (∀ p ∈ es, ∃ x v, p = (.string x, .lit (.int .i64 v))) → ∀ x, val (.map (es.filter fun p => !uZero p.1 p.2)) x = (val (.map es) x).filter fun v => v != 0
  | [], _, _, x => rfl
  | p :: es, hp, hk, x => by
    obtain ⟨y, v, rfl⟩ := hk p (by simp)
    obtain ⟨h1, h2⟩ := List.pairwise_cons.1 hp
    have ih := filter_val es h2 (fun q hq => hk q (by simp [hq])) x
    have hz : uZero (.string y) (.lit (.int .i64 v)) = (v == 0) := rfl
    rw [val_cons, List.filter_cons, hz]
    by_cases c : v = 0
    · subst c
      rw [if_neg (by decide), ih]
      by_cases e : y = x
      · subst e
        rw [if_pos rfl, val_none (fun q hq e => h1 q hq e.symm)]; rfl
      · rw [if_neg e]
    · rw [if_pos (by simp [c]), val_cons, ih]
      by_cases e : y = x
      · rw [if_pos e, if_pos e]; simp [Option.filter, c]
      · rw [if_neg e, if_neg e]
theorem delete_val {D : DataW Unit} (h : UI D) : UI (Lib.deleteFuncD uZero D) ∧ ∀ x, val (Lib.deleteFuncD uZero D) x = (val D x).filter fun v => v != 0 := by
  obtain ⟨es, rfl, hp, hk⟩ := h
  exact ⟨⟨_, rfl, hp.filter _, fun p hp' => hk p (List.mem_filter.1 hp').1⟩, filter_val es hp hk⟩
theorem bytesLess_lt : ∀ (x y : List UInt8), Op.bytesLess x y = decide (x < y)
  | [], [] => by simp [Op.bytesLess]
  | _ :: _, [] => by simp [Op.bytesLess]
  | [], _ :: _ => by simp [Op.bytesLess]
  | a :: x, b :: y => by
    rw [Op.bytesLess, bytesLess_lt x y]
    simp only [List.cons_lt_cons_iff]
    by_cases h1 : a < b <;> by_cases h2 : a = b <;> by_cases h3 : x < y <;> simp [h1, h2, h3]
theorem sort_rises {L : List (List UInt8)} (h : L.Pairwise Lt) : L.mergeSort (fun x y => decide (x ≤ y)) = L := by
  refine List.mergeSort_of_pairwise (h.imp fun {a b} hab => ?_)
  have hab' : Op.bytesLess a b = true := hab
  rw [bytesLess_lt, decide_eq_true_eq] at hab'
  exact decide_eq_true (List.le_of_lt hab')
theorem rises_nodup {L : List (List UInt8)} (h : L.Pairwise Lt) : L.Nodup := h.imp fun {a b} hab e => by
  have hab' : Op.bytesLess a b = true := hab
  rw [e, bytesLess_irrefl] at hab'; cases hab'
theorem rises_map {L : List ByteArray} (h : Rises L) : (L.map toL).Pairwise Lt := List.pairwise_map.2 h
theorem val_has (D : DataW Unit) (x : List UInt8) : (val D x).isSome = Go.Maps.has D (.string x) := by
  unfold val; cases Go.Maps.has D (.string x) <;> rfl
theorem uAt_val (D : DataW Unit) (x : List UInt8) : uAt D x = (val D x).getD 0 := by
  unfold uAt val
  cases h : Go.Maps.has D (.string x) with
  | true => rw [if_pos rfl]; rfl
  | false => rw [if_neg (by decide), Go.Maps.atKey_of_not_has h]; rfl
theorem mk_toL (s : ByteArray) : (⟨(toL s).toArray⟩ : ByteArray) = s := ByteArray.ext (by simp)
theorem keys_of {D : DataW Unit} (h : UM D) {L : List ByteArray} (hr : Rises L) (hm : ∀ x, x ∈ L.map toL ↔ (val D x).isSome = true) : uKeys D = L.map toL := by
  have hp : (L.map toL).Perm (strKeys D) := (List.perm_ext_iff_of_nodup (rises_nodup (rises_map hr)) h.nodup).2 fun x => by rw [hm x, h.mem, val_has]
  have := mergeSort_of_perm hp
  unfold uKeys
  rw [← this, sort_rises (rises_map hr)]
theorem names_of {D : DataW Unit} (h : UM D) {L : List ByteArray} (hr : Rises L) (hm : ∀ x, x ∈ L.map toL ↔ (val D x).isSome = true) : uNames D = L ∧ uNums D = L.map fun s => (val D (toL s)).getD 0 := by
  unfold uNames uNums
  rw [keys_of h hr hm, List.map_map, List.map_map]
  refine ⟨?_, List.map_congr_left fun s _ => uAt_val D _⟩
  conv => rhs; rw [← List.map_id L]
  exact List.map_congr_left fun s _ => mk_toL s
theorem stay_aux (p q : Bool) (a b : Int) : (if p = true then (if q = true then !(a == b) else true) else q) = decide ((if p = true then some b else none) ≠ (if q = true then some a else none)) := by
  cases p <;> cases q <;> by_cases h : b = a
  all_goals first | rfl | (subst h; simp; done) | (have h2 : ¬ a = b := fun e => h e.symm; simp [h, h2]; done) | simp
theorem stay_val (D0 A : DataW Unit) (x : List UInt8) : uStay D0 A (.string x) = decide (val D0 x ≠ val A x) := stay_aux _ _ _ _
theorem diff_of {D0 A : DataW Unit} (h0 : UM D0) (hA : UM A) {L : List ByteArray} (hr : Rises L) (hm : ∀ x, x ∈ L.map toL ↔ val D0 x ≠ val A x) : uDN D0 A = L ∧ uDM D0 A = L.map fun s => (val A (toL s)).getD 0 := by
  have hk : uDK D0 A = L.map toL := by
    have hnd : ((strKeys A ++ (strKeys D0).filter fun l => !Go.Maps.has A (.string l)).filter fun l => uStay D0 A (.string l)).Nodup := by
      refine List.Pairwise.filter _ (List.nodup_append.2 ⟨hA.nodup, List.Pairwise.filter _ h0.nodup, fun a ha b hb e => ?_⟩)
      subst e
      have h2 := (List.mem_filter.1 hb).2
      rw [(hA.mem a).1 ha] at h2
      cases h2
    have hp : (L.map toL).Perm ((strKeys A ++ (strKeys D0).filter fun l => !Go.Maps.has A (.string l)).filter fun l => uStay D0 A (.string l)) := by
      refine (List.perm_ext_iff_of_nodup (rises_nodup (rises_map hr)) hnd).2 fun x => ?_
      rw [hm x, List.mem_filter, stay_val, decide_eq_true_eq, List.mem_append, List.mem_filter, hA.mem, h0.mem]
      refine ⟨fun h => ⟨?_, h⟩, fun h => h.2⟩
      by_cases e : Go.Maps.has A (.string x) = true
      · exact .inl e
      · refine .inr ⟨?_, by simpa using e⟩
        by_cases e2 : Go.Maps.has D0 (.string x) = true
        · exact e2
        · exact absurd (by unfold val; rw [if_neg e, if_neg e2]) h
    unfold uDK
    rw [← mergeSort_of_perm hp, sort_rises (rises_map hr)]
  unfold uDN uDM
  rw [hk, List.map_map, List.map_map]
  refine ⟨?_, List.map_congr_left fun s _ => uAt_val A _⟩
  conv => rhs; rw [← List.map_id L]
  exact List.map_congr_left fun s _ => mk_toL s
structure W (o : Bool) (l : List ByteArray) (n : List Int) : Prop where
  len : l.length ≤ 256
  chk : ∀ s ∈ l, chkV s = 0
  rise : Rises l
  eq : n.length = l.length
  nums : ∀ x ∈ n, 0 ≤ x ∧ x ≤ 1024 ∧ (o = true → x ≠ 0)
theorem W.of {o : Bool} {l : List ByteArray} {n : List Int} (h : lsV o l n = true) : W o l n := by
  obtain ⟨h1, ⟨h2, h3⟩, h4, h5⟩ := (lsV_iff o l n).1 h
  exact ⟨h1, h2, h3, h4, h5⟩
theorem W.to {o : Bool} {l : List ByteArray} {n : List Int} (h : W o l n) : lsV o l n = true := (lsV_iff o l n).2 ⟨h.len, ⟨h.chk, h.rise⟩, h.eq, h.nums⟩
theorem W.uOk {o : Bool} {l : List ByteArray} {n : List Int} (h : W o l n) : uOk l n = true := by
  unfold Fn.uOk
  have e1 : (l.all fun s => decide (s.size ≤ 9223372036854775807)) = true := List.all_eq_true.2 fun s hs => decide_eq_true (by have := chk_size (h.chk s hs); omega)
  have e2 : (n.all fun x => (Lit.int .i64 x).wf) = true := List.all_eq_true.2 fun x hx => by
    have := h.nums x hx
    simp [Lit.wf, IntKind.min, IntKind.max, IntKind.bits, IntKind.signed]; omega
  have h1 := h.len
  have h2 := h.eq
  rw [e1, e2, decide_eq_true (by omega), decide_eq_true (by omega)]; rfl
theorem W.nonneg {o : Bool} {l : List ByteArray} {n : List Int} (h : W o l n) : ∀ v ∈ n, 0 ≤ v := fun v hv => (h.nums v hv).1
def valM (l0 : List ByteArray) (l1 : List Int) (o : Bool) (l2 : List ByteArray) (l3 : List Int) (x : List UInt8) : Int := if numV l2 l3 x < 0 ∧ o = false then numV l0 l1 x else numV l2 l3 x
def mN (l0 : List ByteArray) (l1 : List Int) (o : Bool) (l2 : List ByteArray) (l3 : List Int) : List ByteArray := (allN l0 l2).filter fun s => decide (0 < valM l0 l1 o l2 l3 (toL s))
def mergeV (l0 : List ByteArray) (l1 : List Int) (o : Bool) (l2 : List ByteArray) (l3 : List Int) : List ByteArray × List Int × Int :=
  if lsV o l2 l3 = true ∧ lsV true l0 l1 = true then (mN l0 l1 o l2 l3, (mN l0 l1 o l2 l3).map fun s => valM l0 l1 o l2 l3 (toL s), 0) else ([], [], 2)
theorem all_rises {a b : List ByteArray} (ha : Rises a) (hb : Rises b) : Rises (allN a b) := mg_rises _ a b (Nat.le_refl _) ha hb
theorem all_mem {a b : List ByteArray} (z : ByteArray) : z ∈ allN a b ↔ z ∈ a ∨ z ∈ b := mg_mem _ a b (Nat.le_refl _) z
theorem valM_val {l0 : List ByteArray} {l1 : List Int} {o : Bool} {l2 : List ByteArray} {l3 : List Int} (h0 : W true l0 l1) (h2 : W o l2 l3) (x : List UInt8) :
    ((numL l2 l3 x).or (if o = true then none else numL l0 l1 x)).filter (fun v => v != 0) = if 0 < valM l0 l1 o l2 l3 x then some (valM l0 l1 o l2 l3 x) else none := by
  unfold valM numV
  cases e2 : numL l2 l3 x with
  | some v =>
    have hv := h2.nonneg v (numL_mem e2).2
    simp only [Option.getD_some, Option.some_or]
    rw [if_neg (show ¬ (v < 0 ∧ o = false) from fun h => by omega)]
    by_cases c : v = 0
    · subst c; rfl
    · rw [if_pos (by omega)]; simp [Option.filter, c]
  | none =>
    rw [Option.none_or, show (none : Option Int).getD (-1) = -1 from rfl]
    cases o with
    | true =>
      rw [if_pos rfl, if_neg (show ¬ ((-1 : Int) < 0 ∧ true = false) from fun h => absurd h.2 (by decide)), if_neg (show ¬ (0 : Int) < -1 by decide)]; rfl
    | false =>
      rw [if_neg (show ¬ (false = true) by decide), if_pos (show (-1 : Int) < 0 ∧ false = false from ⟨by decide, rfl⟩)]
      cases e0 : numL l0 l1 x with
      | none => rfl
      | some v =>
        have hv := h0.nums v (numL_mem e0).2
        have h1 := hv.2.2 rfl
        rw [show (some v).getD (-1) = v from rfl, if_pos (by omega)]
        simp [Option.filter, h1]
theorem mN_mem {l0 : List ByteArray} {l1 : List Int} {o : Bool} {l2 : List ByteArray} {l3 : List Int} (x : List UInt8) : x ∈ (mN l0 l1 o l2 l3).map toL ↔ 0 < valM l0 l1 o l2 l3 x := by
  constructor
  · intro h
    obtain ⟨s, hs, rfl⟩ := List.mem_map.1 h
    exact of_decide_eq_true (List.mem_filter.1 hs).2
  · intro h
    have hin : x ∈ l0.map toL ∨ x ∈ l2.map toL := by
      unfold valM at h
      by_cases c : numV l2 l3 x < 0 ∧ o = false
      · rw [if_pos c] at h; exact .inl (numV_mem (Int.le_of_lt h)).1
      · rw [if_neg c] at h; exact .inr (numV_mem (Int.le_of_lt h)).1
    rcases hin with hx | hx
    · obtain ⟨s, hs, rfl⟩ := List.mem_map.1 hx
      exact List.mem_map.2 ⟨s, List.mem_filter.2 ⟨(all_mem s).2 (.inl hs), decide_eq_true h⟩, rfl⟩
    · obtain ⟨s, hs, rfl⟩ := List.mem_map.1 hx
      exact List.mem_map.2 ⟨s, List.mem_filter.2 ⟨(all_mem s).2 (.inr hs), decide_eq_true h⟩, rfl⟩
theorem merged_rows {l0 : List ByteArray} {l1 : List Int} {o : Bool} {l2 : List ByteArray} {l3 : List Int} (h0 : W true l0 l1) (h2 : W o l2 l3) : uNames (uMerged o l0 l1 l2 l3) = mN l0 l1 o l2 l3 ∧ uNums (uMerged o l0 l1 l2 l3) = (mN l0 l1 o l2 l3).map fun s => valM l0 l1 o l2 l3 (toL s) := by
  have hb : UI (if o = true then .map [] else Lib.mergeD (.map []) (uTab l0 l1 (.map []))) ∧ ∀ x, val (if o = true then .map [] else Lib.mergeD (.map []) (uTab l0 l1 (.map []))) x = if o = true then none else numL l0 l1 x := by
    cases o with
    | true => exact ⟨UI.empty, fun x => rfl⟩
    | false =>
      have := mergeD_val (tabUI l0 l1) UI.empty
      refine ⟨this.1, fun x => ?_⟩
      show val (Lib.mergeD (.map []) (uTab l0 l1 (.map []))) x = _
      rw [this.2 x, tab0 l0 l1 h0.rise, val_empty]; simp
  have hm := mergeD_val (tabUI l2 l3) hb.1
  have hd := delete_val hm.1
  have hval : ∀ x, val (uMerged o l0 l1 l2 l3) x = if 0 < valM l0 l1 o l2 l3 x then some (valM l0 l1 o l2 l3 x) else none := by
    intro x
    show val (Lib.deleteFuncD uZero (Lib.mergeD (if o = true then .map [] else Lib.mergeD (.map []) (uTab l0 l1 (.map []))) (uTab l2 l3 (.map [])))) x = _
    rw [hd.2 x, hm.2 x, hb.2 x, tab0 l2 l3 h2.rise]
    exact valM_val h0 h2 x
  have hr : Rises (mN l0 l1 o l2 l3) := (all_rises h0.rise h2.rise).filter _
  have := names_of (D := uMerged o l0 l1 l2 l3) hd.1.um hr (fun x => by rw [mN_mem, hval]; by_cases c : 0 < valM l0 l1 o l2 l3 x <;> simp [c])
  refine ⟨this.1, this.2.trans (List.map_congr_left fun s hs => ?_)⟩
  rw [hval, if_pos (of_decide_eq_true (List.mem_filter.1 hs).2)]; rfl
theorem whole_ev (l : List ByteArray) (n : List Int) (hl : l.length < 4611686018427387904) : Ev (fun k => union_whole.f k l n) (lsV true l n) := by
  obtain ⟨b, hb⟩ := putListing_ev true l n hl
  refine Ev.congr (f := fun k => (obj_PutListing.f k true l n).bind fun bt => some (bt.2 == 0)) (fun k => rfl) (Ev.bind hb ?_)
  cases lsV true l n <;> exact Ev.now _
theorem merge_ev (l0 : List ByteArray) (l1 : List Int) (o : Bool) (l2 : List ByteArray) (l3 : List Int) (hl0 : l0.length < 4611686018427387904) (hl2 : l2.length < 4611686018427387904) : Ev (fun k => union_Merge.f k l0 l1 o l2 l3) (mergeV l0 l1 o l2 l3) := by
  obtain ⟨b, hb⟩ := putListing_ev o l2 l3 hl2
  unfold union_Merge.f mergeV
  refine Ev.bind hb ?_
  cases h2 : lsV o l2 l3 with
  | false => exact Ev.congr (fun k => if_neg (show ¬ ((80 : Int) = 0) by decide)) (Ev.now _)
  | true =>
    simp only [if_true, true_and]
    refine Ev.bind (whole_ev l0 l1 hl0) ?_
    cases h0 : lsV true l0 l1 with
    | false => simp only [Bool.false_eq_true, if_false]; exact Ev.now _
    | true =>
      simp only [if_true]
      obtain ⟨e1, e2⟩ := merged_rows (W.of h0) (W.of h2)
      rw [(W.of h0).uOk, (W.of h2).uOk, e1, e2]
      simp only [if_true]
      exact Ev.now _
end Go.Proofs.YtigbmfogfgbmfaaDoor.Pure
