import Derived.Test.YtigbmfogfgbmfaaDoorNmA
import Derived.Test.YtigbmfogfgbmfaaDoorLebP
import Derived.Test.YtigbmfogfgbmfaaDoorHx0
import Derived.Test.YtigbmfogfgbmfaaDoorHx1
import Derived.Test.YtigbmfogfgbmfaaDoorHx2
import Derived.Test.YtigbmfogfgbmfaaDoorHx3
import Derived.Test.YtigbmfogfgbmfaaDoorHx8
namespace Go.Proofs.YtigbmfogfgbmfaaDoor.Pure
open Go.RowKit Go.Proofs.YtigbmfogfgbmfaaDoor.Fn Go.Proofs.YtigbmfogfgbmfaaDoorW.PrintWords Go.Proofs.YtigbmfogfgbmfaaDoorW.PrintLast Go.Proofs.YtigbmfogfgbmfaaDoor.U
set_option linter.unusedVariables false
set_option linter.unusedSimpArgs false
def leS (a b : ByteArray) : Bool := Op.bytesLess a.toList b.toList || (a.toList == b.toList)
def risFrom (l : List ByteArray) : Nat → Nat → Bool
  | 0, _ => true
  | d + 1, i => if chkV (rdOf ByteArray.empty l (i : Int)) = 0 then (if 0 < i then (if leS (rdOf ByteArray.empty l (i : Int)) (rdOf ByteArray.empty l ((i - 1 : Nat) : Int)) = true then false else risFrom l d (i + 1)) else risFrom l d (i + 1)) else false
def risV (l : List ByteArray) : Bool := risFrom l l.length 0
theorem rising_loop (l : List ByteArray) (hl : l.length < 4611686018427387904) (d : Nat) : ∀ i : Nat, i + d = l.length → Ev (fun k => obj_rising.l0 k l l (l.length : Int) (i : Int)) (risFrom l d i) := by
  induction d with
  | zero =>
    intro i hi
    refine Ev.step (f := fun _ => some true) (fun k => ?_) (Ev.now _)
    simp only [obj_rising.l0]
    rw [if_neg (by omega)]
  | succ d ih =>
    intro i hi
    have hw : wrap64 ((i : Int) + 1) = ((i + 1 : Nat) : Int) := by rw [w64 (by omega) (by omega)]; omega
    unfold risFrom
    refine Ev.step (f := fun k => if chkV (rdOf ByteArray.empty l (i : Int)) = 0 then (if (i : Int) > 0 then (if leS (rdOf ByteArray.empty l (i : Int)) (rdOf ByteArray.empty l (wrap64 ((i : Int) - 1))) = true then some false else obj_rising.l0 k l l (l.length : Int) (wrap64 ((i : Int) + 1))) else obj_rising.l0 k l l (l.length : Int) (wrap64 ((i : Int) + 1))) else some false) (fun k => ?_) ?_
    · simp only [obj_rising.l0]
      rw [if_pos (by omega), if_pos (by omega), if_pos (by omega), name_Check_eq, Option.bind_some]
      by_cases c : (i : Int) > 0
      · have hw2 : wrap64 ((i : Int) - 1) = (i : Int) - 1 := w64 (by omega) (by omega)
        simp only [if_pos c, hw2, if_pos (show (0 : Int) ≤ (i : Int) - 1 by omega), if_pos (show (i : Int) - 1 < (l.length : Int) by omega)]; rfl
      · simp only [if_neg c]
    · rw [hw]
      by_cases c1 : chkV (rdOf ByteArray.empty l (i : Int)) = 0
      · simp only [if_pos c1]
        by_cases c2 : 0 < i
        · have hw2 : wrap64 ((i : Int) - 1) = ((i - 1 : Nat) : Int) := by rw [w64 (by omega) (by omega)]; omega
          simp only [if_pos c2, if_pos (show (i : Int) > 0 by omega), hw2]
          by_cases c3 : leS (rdOf ByteArray.empty l (i : Int)) (rdOf ByteArray.empty l ((i - 1 : Nat) : Int)) = true
          · simp only [if_pos c3]; exact Ev.now _
          · simp only [if_neg c3]; exact ih (i + 1) (by omega)
        · simp only [if_neg c2, if_neg (show ¬ (i : Int) > 0 by omega)]; exact ih (i + 1) (by omega)
      · simp only [if_neg c1]; exact Ev.now _
theorem rising_ev (l : List ByteArray) (hl : l.length < 4611686018427387904) : Ev (fun k => obj_rising.f k l) (risV l) := rising_loop l hl l.length 0 (by omega)
abbrev toL (s : ByteArray) : List UInt8 := s.data.toList
abbrev Lt (a b : List UInt8) : Prop := Op.bytesLess a b = true
theorem toL_inj {a b : ByteArray} (h : toL a = toL b) : a = b := ByteArray.ext (Array.ext' h)
theorem leS_false {a b : ByteArray} : leS a b = false ↔ Lt (toL b) (toL a) := by
  unfold leS
  rw [Lib.toList_data, Lib.toList_data, Bool.or_eq_false_iff, beq_eq_false_iff_ne]
  constructor
  · rintro ⟨h1, h2⟩
    rcases bytesLess_tri (toL a) (toL b) with h | h | h
    · rw [h] at h1; cases h1
    · exact absurd h h2
    · exact h
  · intro h
    refine ⟨bytesLess_asymm _ _ h, fun e => ?_⟩
    have h' : Op.bytesLess b.data.toList a.data.toList = true := h
    rw [e, bytesLess_irrefl] at h'
    cases h'
theorem risFrom_iff (l : List ByteArray) (d : Nat) : ∀ i : Nat, i + d = l.length → (risFrom l d i = true ↔ ∀ j, i ≤ j → (hj : j < l.length) → chkV l[j] = 0 ∧ ∀ h0 : 0 < j, Lt (toL l[j - 1]) (toL l[j])) := by
  induction d with
  | zero =>
    intro i hi
    exact ⟨fun _ j h1 h2 => by omega, fun _ => rfl⟩
  | succ d ih =>
    intro i hi
    have e1 : rdOf ByteArray.empty l (i : Int) = l[i] := rdOf_at _ l i (by omega)
    have e2 : rdOf ByteArray.empty l ((i - 1 : Nat) : Int) = l[i - 1] := rdOf_at _ l (i - 1) (by omega)
    unfold risFrom
    rw [e1, e2]
    have hih := ih (i + 1) (by omega)
    have hrest : (∀ j, i ≤ j → (hj : j < l.length) → chkV l[j] = 0 ∧ ∀ h0 : 0 < j, Lt (toL l[j - 1]) (toL l[j])) ↔ (chkV l[i] = 0 ∧ ∀ h0 : 0 < i, Lt (toL l[i - 1]) (toL l[i])) ∧ ∀ j, i + 1 ≤ j → (hj : j < l.length) → chkV l[j] = 0 ∧ ∀ h0 : 0 < j, Lt (toL l[j - 1]) (toL l[j]) := by
      constructor
      · intro h; exact ⟨h i (Nat.le_refl _) (by omega), fun j hj hl => h j (by omega) hl⟩
      · rintro ⟨h1, h2⟩ j hj hl
        rcases Nat.lt_or_ge i j with h | h
        · exact h2 j h hl
        · obtain rfl : j = i := by omega
          exact h1
    rw [hrest, ← hih]
    by_cases c1 : chkV l[i] = 0
    · rw [if_pos c1]
      by_cases c2 : 0 < i
      · rw [if_pos c2]
        cases c3 : leS l[i] l[i - 1] with
        | true =>
          rw [if_pos rfl]
          refine ⟨fun h => (by cases h), fun h => ?_⟩
          have := leS_false.2 (h.1.2 c2)
          rw [c3] at this; cases this
        | false =>
          rw [if_neg (by decide)]
          exact ⟨fun h => ⟨⟨c1, fun _ => leS_false.1 c3⟩, h⟩, fun h => h.2⟩
      · rw [if_neg c2]
        exact ⟨fun h => ⟨⟨c1, fun h0 => absurd h0 c2⟩, h⟩, fun h => h.2⟩
    · rw [if_neg c1]
      exact ⟨fun h => (by cases h), fun h => absurd h.1.1 c1⟩
theorem chain_lt (l : List ByteArray) (h : ∀ j, (hj : j < l.length) → ∀ h0 : 0 < j, Lt (toL l[j - 1]) (toL l[j])) (i : Nat) (d : Nat) : ∀ j, (hj : j < l.length) → j = i + 1 + d → ∀ hi : i < l.length, Lt (toL l[i]) (toL l[j]) := by
  induction d with
  | zero =>
    intro j hj e hi
    subst e
    have := h (i + 1 + 0) hj (by omega)
    exact this
  | succ d ih =>
    intro j hj e hi
    subst e
    have h1 := ih (i + 1 + d) (by omega) rfl hi
    have h2 := h (i + 1 + (d + 1)) hj (by omega)
    exact bytesLess_trans _ _ _ h1 h2
theorem risV_iff (l : List ByteArray) : risV l = true ↔ (∀ s ∈ l, chkV s = 0) ∧ l.Pairwise (fun a b => Lt (toL a) (toL b)) := by
  unfold risV
  rw [risFrom_iff l l.length 0 (by omega)]
  constructor
  · intro h
    refine ⟨fun s hs => ?_, ?_⟩
    · obtain ⟨j, hj, rfl⟩ := List.getElem_of_mem hs
      exact (h j (Nat.zero_le _) hj).1
    · rw [List.pairwise_iff_getElem]
      intro i j hi hj hij
      exact chain_lt l (fun j hj h0 => (h j (Nat.zero_le _) hj).2 h0) i (j - i - 1) j hj (by omega) hi
  · rintro ⟨h1, h2⟩ j _ hj
    refine ⟨h1 _ (List.getElem_mem hj), fun h0 => ?_⟩
    rw [List.pairwise_iff_getElem] at h2
    exact h2 (j - 1) j (by omega) hj (by omega)
def lsV (o : Bool) (l : List ByteArray) (n : List Int) : Bool := decide (l.length ≤ 256) && (risV l && (decide (n.length = l.length) && !(n.any (lsOdd o))))
theorem lsV_iff (o : Bool) (l : List ByteArray) (n : List Int) : lsV o l n = true ↔ l.length ≤ 256 ∧ ((∀ s ∈ l, chkV s = 0) ∧ l.Pairwise (fun a b => Lt (toL a) (toL b))) ∧ n.length = l.length ∧ ∀ x ∈ n, 0 ≤ x ∧ x ≤ 1024 ∧ (o = true → x ≠ 0) := by
  unfold lsV
  rw [Bool.and_eq_true, Bool.and_eq_true, Bool.and_eq_true, decide_eq_true_eq, decide_eq_true_eq, risV_iff, Bool.not_eq_true', List.any_eq_false]
  have e : ∀ x : Int, ¬ (lsOdd o x = true) ↔ (0 ≤ x ∧ x ≤ 1024 ∧ (o = true → x ≠ 0)) := by
    intro x
    unfold lsOdd
    cases o <;> simp <;> omega
  constructor
  · rintro ⟨h1, h2, h3, h4⟩; exact ⟨h1, h2, h3, fun x hx => (e x).1 (h4 x hx)⟩
  · rintro ⟨h1, h2, h3, h4⟩; exact ⟨h1, h2, h3, fun x hx => (e x).2 (h4 x hx)⟩
theorem put_some (fs : List ObjFld) : (∀ x ∈ fs, ∃ e, Ev (fun k => x.enc k) e ∧ e.length ≤ 200) → ∀ l : List Int, l.length + 200 * fs.length < 140737488355328 → ∃ r, Ev (fun k => obj_put.f k l fs) r := by
  induction fs with
  | nil => intro _ l _; exact ⟨l, Ev.now _⟩
  | cons x xs ih =>
    intro hf l hl
    obtain ⟨e, he, hle⟩ := hf x (by simp)
    rw [List.length_cons] at hl
    obtain ⟨r, hr⟩ := ih (fun y hy => hf y (by simp [hy])) (l ++ e) (by rw [List.length_append]; omega)
    refine ⟨r, ?_⟩
    refine Ev.congr (f := fun k => (x.enc k).bind fun e => if l.length + e.length < 140737488355328 then obj_put.f k (l ++ e) xs else none) (fun k => by simp only [obj_put.f]) (Ev.bind he (Ev.congr (fun k => if_pos (by omega)) hr))
theorem sz_ten {x : Nat} (hx : x < 18446744073709551616) : LebA.sz x ≤ 10 := LebA.sz_le hx
theorem encI (n : Int) (h0 : 0 ≤ n) (h1 : n < 1000000) : ∃ e, Ev (fun k => (fI n).enc k) e ∧ e.length ≤ 200 := by
  obtain ⟨m, rfl⟩ := Int.eq_ofNat_of_zero_le h0
  have hw : IntKind.u64.wrap (m : Int) = (m : Int) := LebB.wu (by omega) (by omega)
  have hs := sz_ten (x := m) (by omega)
  refine ⟨_, Ev.congr (fun k => ?_) (LebB.put_ev (x := m) (by omega)), by rw [ofN_length, LebA.D_length]; omega⟩
  show leb_Put.f k (IntKind.u64.wrap (m : Int)) = _
  rw [hw]
theorem encO (o : Bool) : ∃ e, Ev (fun k => (fO o).enc k) e ∧ e.length ≤ 200 := by
  have hs := fun x hx => sz_ten (x := x) hx
  cases o with
  | true => exact ⟨_, Ev.congr (fun k => rfl) (LebB.put_ev (x := 1) (by omega)), by rw [ofN_length, LebA.D_length]; have := hs 1 (by omega); omega⟩
  | false => exact ⟨_, Ev.congr (fun k => rfl) (LebB.put_ev (x := 0) (by omega)), by rw [ofN_length, LebA.D_length]; have := hs 0 (by omega); omega⟩
theorem encS (s : ByteArray) (h : s.size ≤ 100) : ∃ e, Ev (fun k => (fS s).enc k) e ∧ e.length ≤ 200 := by
  have hs := sz_ten (x := (sNums s).length) (by rw [sNums_length]; omega)
  have hw : IntKind.u64.wrap ((sNums s).length : Int) = (((sNums s).length : Nat) : Int) := LebB.wu (by omega) (by rw [sNums_length]; omega)
  refine ⟨_, Ev.congr (f := fun k => (leb_Put.f k (((sNums s).length : Nat) : Int)).bind fun t => if t.length + (sNums s).length < 140737488355328 then some (t ++ sNums s) else none) (fun k => ?_) (Ev.bind (LebB.put_ev (x := (sNums s).length) (by rw [sNums_length]; omega)) (Ev.congr (fun k => if_pos ?_) (Ev.now _))), ?_⟩
  · show leb_Bytes.f k (sNums s) = _
    unfold leb_Bytes.f; rw [hw]
  · rw [ofN_length, LebA.D_length, sNums_length] at *; omega
  · rw [List.length_append, ofN_length, LebA.D_length, sNums_length] at *; omega
theorem chk_size {s : ByteArray} (h : chkV s = 0) : s.size ≤ 100 := by
  unfold chkV at h
  by_cases c1 : s.toList = ([] : List UInt8)
  · rw [if_pos c1] at h; exact absurd h (by decide)
  rw [if_neg c1] at h
  by_cases c2 : (s.size : Int) > 100
  · rw [if_pos c2] at h; exact absurd h (by decide)
  omega
theorem putListing_ev (o : Bool) (l : List ByteArray) (n : List Int) (hl : l.length < 4611686018427387904) : ∃ b, Ev (fun k => obj_PutListing.f k o l n) (b, if lsV o l n = true then 0 else 80) := by
  unfold obj_PutListing.f
  by_cases c1 : (l.length : Int) > 256
  · refine ⟨[], ?_⟩
    simp only [if_pos c1]
    rw [show lsV o l n = false by unfold lsV; rw [decide_eq_false (by omega)]; rfl, if_neg (by decide)]; exact Ev.now _
  simp only [if_neg c1]
  by_cases c2 : (n.length : Int) = (l.length : Int)
  case neg =>
    refine ⟨[], ?_⟩
    simp only [if_neg c2]
    rw [show lsV o l n = false by unfold lsV; rw [decide_eq_false (show ¬ n.length = l.length by omega)]; simp, if_neg (by decide)]; exact Ev.now _
  simp only [if_pos c2]
  cases hr : risV l with
  | false =>
    refine ⟨[], Ev.bind (rising_ev l hl) ?_⟩
    rw [hr]
    simp only [Bool.false_eq_true, if_false]
    rw [show lsV o l n = false by unfold lsV; rw [hr]; simp, if_neg (by decide)]; exact Ev.now _
  | true =>
    cases ho : n.any (lsOdd o) with
    | true =>
      refine ⟨[], Ev.bind (rising_ev l hl) ?_⟩
      rw [hr]
      simp only [if_true]
      rw [show lsV o l n = false by unfold lsV; rw [ho]; simp, if_neg (by decide)]; exact Ev.now _
    | false =>
      have hls : lsV o l n = true := by unfold lsV; rw [hr, ho, decide_eq_true (by omega), decide_eq_true (by omega)]; rfl
      obtain ⟨h1, ⟨h2, h3⟩, h4, h5⟩ := (lsV_iff o l n).1 hls
      have hall : (l.all fun s => decide (s.size ≤ 9223372036854775807)) = true := List.all_eq_true.2 fun s hs => decide_eq_true (by have := chk_size (h2 s hs); omega)
      obtain ⟨r, hp⟩ := put_some (fO o :: fI (l.length : Int) :: (l.map fS ++ n.map fI)) (fun x hx => by
        rcases List.mem_cons.1 hx with rfl | hx
        · exact encO o
        rcases List.mem_cons.1 hx with rfl | hx
        · exact encI _ (by omega) (by omega)
        rcases List.mem_append.1 hx with hx | hx
        · obtain ⟨s, hs, rfl⟩ := List.mem_map.1 hx
          exact encS s (chk_size (h2 s hs))
        · obtain ⟨m, hm, rfl⟩ := List.mem_map.1 hx
          have := h5 m hm
          exact encI m (by omega) (by omega)) [] (by simp; omega)
      refine ⟨r, Ev.bind (rising_ev l hl) ?_⟩
      rw [hr, hls]
      simp only [if_true, Bool.false_eq_true, if_false, hall]
      exact Ev.bind (f := fun _ b => some (b, (0 : Int))) hp (Ev.now _)
end Go.Proofs.YtigbmfogfgbmfaaDoor.Pure
