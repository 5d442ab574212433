import Derived.Test.YtigbmfogfgbmfaaDoorUnB
import Derived.Test.YtigbmfogfgbmfaaDoorHx0
import Derived.Test.YtigbmfogfgbmfaaDoorHx5
namespace Go.Proofs.YtigbmfogfgbmfaaDoor.Pure
open Go.RowKit Go.Proofs.YtigbmfogfgbmfaaDoor.Fn Go.Proofs.YtigbmfogfgbmfaaDoorW.PrintWords Go.Proofs.YtigbmfogfgbmfaaDoorW.PrintLast Go.Proofs.YtigbmfogfgbmfaaDoor.U
set_option linter.unusedVariables false
set_option linter.unusedSimpArgs false
def dN (l0 : List ByteArray) (l1 : List Int) (l2 : List ByteArray) (l3 : List Int) : List ByteArray := (allN l0 l2).filter fun s => decide (numV l0 l1 (toL s) ≠ numV l2 l3 (toL s))
def dM (l0 : List ByteArray) (l1 : List Int) (l2 : List ByteArray) (l3 : List Int) : List Int := (dN l0 l1 l2 l3).map fun s => mx (numV l2 l3 (toL s)) 0
def diffV (l0 : List ByteArray) (l1 : List Int) (l2 : List ByteArray) (l3 : List Int) : Bool × List ByteArray × List Int × Int :=
  if lsV true l0 l1 = true ∧ lsV true l2 l3 = true then (if lsV false (dN l0 l1 l2 l3) (dM l0 l1 l2 l3) = true then (false, dN l0 l1 l2 l3, dM l0 l1 l2 l3, 0) else (false, [], [], 80)) else (false, [], [], 2)
theorem numV_inj {o o' : Bool} {l l' : List ByteArray} {n n' : List Int} (h : W o l n) (h' : W o' l' n') (x : List UInt8) : numV l n x = numV l' n' x ↔ numL l n x = numL l' n' x := by
  unfold numV
  cases e : numL l n x with
  | none =>
    cases e' : numL l' n' x with
    | none => simp
    | some v' => have := h'.nonneg v' (numL_mem e').2; simp; omega
  | some v =>
    have hv := h.nonneg v (numL_mem e).2
    cases e' : numL l' n' x with
    | none => simp; omega
    | some v' => simp
theorem mx_num {o : Bool} {l : List ByteArray} {n : List Int} (h : W o l n) (x : List UInt8) : (numL l n x).getD 0 = mx (numV l n x) 0 := by
  unfold numV mx
  cases e : numL l n x with
  | none => rfl
  | some v => have := h.nonneg v (numL_mem e).2; simp; omega
theorem dN_mem {o o' : Bool} {l0 : List ByteArray} {l1 : List Int} {l2 : List ByteArray} {l3 : List Int} (h0 : W o l0 l1) (h2 : W o' l2 l3) (x : List UInt8) : x ∈ (dN l0 l1 l2 l3).map toL ↔ numL l0 l1 x ≠ numL l2 l3 x := by
  constructor
  · intro h
    obtain ⟨s, hs, rfl⟩ := List.mem_map.1 h
    have := of_decide_eq_true (List.mem_filter.1 hs).2
    exact fun e => this ((numV_inj h0 h2 _).2 e)
  · intro h
    have hin : x ∈ l0.map toL ∨ x ∈ l2.map toL := by
      cases e0 : numL l0 l1 x with
      | some v => exact .inl (numL_mem e0).1
      | none =>
        cases e2 : numL l2 l3 x with
        | some v => exact .inr (numL_mem e2).1
        | none => rw [e0, e2] at h; exact absurd rfl h
    have hd : decide (numV l0 l1 x ≠ numV l2 l3 x) = true := decide_eq_true fun e => h ((numV_inj h0 h2 x).1 e)
    rcases hin with hx | hx
    · obtain ⟨s, hs, rfl⟩ := List.mem_map.1 hx
      exact List.mem_map.2 ⟨s, List.mem_filter.2 ⟨(all_mem s).2 (.inl hs), hd⟩, rfl⟩
    · obtain ⟨s, hs, rfl⟩ := List.mem_map.1 hx
      exact List.mem_map.2 ⟨s, List.mem_filter.2 ⟨(all_mem s).2 (.inr hs), hd⟩, rfl⟩
theorem dN_rises {o o' : Bool} {l0 : List ByteArray} {l1 : List Int} {l2 : List ByteArray} {l3 : List Int} (h0 : W o l0 l1) (h2 : W o' l2 l3) : Rises (dN l0 l1 l2 l3) := (all_rises h0.rise h2.rise).filter _
theorem diff_rows {l0 : List ByteArray} {l1 : List Int} {l2 : List ByteArray} {l3 : List Int} (h0 : W true l0 l1) (h2 : W true l2 l3) : uDN (uTab l0 l1 (.map [])) (uTab l2 l3 (.map [])) = dN l0 l1 l2 l3 ∧ uDM (uTab l0 l1 (.map [])) (uTab l2 l3 (.map [])) = dM l0 l1 l2 l3 := by
  have := diff_of (tabUI l0 l1).um (tabUI l2 l3).um (dN_rises h0 h2) (fun x => by rw [dN_mem h0 h2, tab0 l0 l1 h0.rise, tab0 l2 l3 h2.rise])
  refine ⟨this.1, this.2.trans (List.map_congr_left fun s _ => ?_)⟩
  rw [tab0 l2 l3 h2.rise, mx_num h2]
theorem dN_length (l0 : List ByteArray) (l1 : List Int) (l2 : List ByteArray) (l3 : List Int) : (dN l0 l1 l2 l3).length ≤ l0.length + l2.length := Nat.le_trans (List.length_filter_le _ _) (mg_length _ _ _)
theorem diff_ev (l0 : List ByteArray) (l1 : List Int) (l2 : List ByteArray) (l3 : List Int) (hl0 : l0.length < 4611686018427387904) (hl2 : l2.length < 4611686018427387904) : Ev (fun k => union_Diff.f k l0 l1 l2 l3) (diffV l0 l1 l2 l3) := by
  unfold union_Diff.f diffV
  refine Ev.bind (whole_ev l0 l1 hl0) ?_
  cases h0 : lsV true l0 l1 with
  | false => simp only [Bool.false_eq_true, if_false, false_and]; exact Ev.now _
  | true =>
    simp only [if_true, true_and]
    refine Ev.bind (whole_ev l2 l3 hl2) ?_
    cases h2 : lsV true l2 l3 with
    | false => simp only [Bool.false_eq_true, if_false]; exact Ev.now _
    | true =>
      simp only [if_true]
      obtain ⟨e1, e2⟩ := diff_rows (W.of h0) (W.of h2)
      rw [(W.of h0).uOk, (W.of h2).uOk, e1, e2]
      simp only [if_true]
      have := dN_length l0 l1 l2 l3
      have w0 := (W.of h0).len
      have w2 := (W.of h2).len
      obtain ⟨b, hb⟩ := putListing_ev false (dN l0 l1 l2 l3) (dM l0 l1 l2 l3) (by omega)
      refine Ev.bind hb ?_
      cases lsV false (dN l0 l1 l2 l3) (dM l0 l1 l2 l3) with
      | true => exact Ev.congr (fun k => if_pos (show ((0 : Int) = 0) from rfl)) (Ev.now _)
      | false => exact Ev.congr (fun k => if_neg (show ¬ ((80 : Int) = 0) by decide)) (Ev.now _)
def opaqueV (l : List ByteArray) (n : List Int) : Bool × List ByteArray × List Int × Int := if lsV true l n = true then (true, l, n, 0) else (false, [], [], 2)
theorem opaque_ev (l : List ByteArray) (n : List Int) (hl : l.length < 4611686018427387904) : Ev (fun k => union_Opaque.f k l n) (opaqueV l n) := by
  unfold union_Opaque.f opaqueV
  refine Ev.bind (whole_ev l n hl) ?_
  cases h0 : lsV true l n with
  | false => simp only [Bool.false_eq_true, if_false]; exact Ev.now _
  | true =>
    have h1 := (W.of h0).len
    have h2 := (W.of h0).eq
    simp only [if_true]
    rw [show slices_Clone_string_string.f l = some l from if_pos (by omega), show slices_Clone_int_int.f n = some n from if_pos (by omega)]
    exact Ev.now _
theorem chkV_data (s : ByteArray) : chkV s = if s.data.toList = ([] : List UInt8) then 206 else if (s.size : Int) > 100 then 208 else if s.data.toList = ([46] : List UInt8) then 206 else if s.data.toList = ([46, 46] : List UInt8) then 206 else if Lib.validD s.data.toList = true then (if nmBad s s.size 0 = true then 206 else 0) else 206 := by
  unfold chkV; rw [Lib.toList_data]
abbrev tA : ByteArray := ⟨#[97]⟩
abbrev tB : ByteArray := ⟨#[98]⟩
abbrev tC : ByteArray := ⟨#[99]⟩
abbrev tX : ByteArray := ⟨#[120]⟩
theorem cA : chkV tA = 0 := by rw [chkV_data]; decide +kernel
theorem cB : chkV tB = 0 := by rw [chkV_data]; decide +kernel
theorem cC : chkV tC = 0 := by rw [chkV_data]; decide +kernel
theorem cX : chkV tX = 0 := by rw [chkV_data]; decide +kernel
theorem chk_all {s : ByteArray} (h : s = tA ∨ s = tB ∨ s = tC ∨ s = tX) : chkV s = 0 := by
  rcases h with rfl | rfl | rfl | rfl
  · exact cA
  · exact cB
  · exact cC
  · exact cX
theorem lsAB : lsV true [tA, tB] [2, 3] = true := (lsV_iff _ _ _).2 ⟨by decide, ⟨fun s hs => chk_all (by simp at hs; rcases hs with h | h <;> simp [h]), by decide +kernel⟩, rfl, by decide⟩
theorem lsBC : lsV true [tB, tC] [3, 9] = true := (lsV_iff _ _ _).2 ⟨by decide, ⟨fun s hs => chk_all (by simp at hs; rcases hs with h | h <;> simp [h]), by decide +kernel⟩, rfl, by decide⟩
theorem lsAC : lsV false [tA, tC] [0, 9] = true := (lsV_iff _ _ _).2 ⟨by decide, ⟨fun s hs => chk_all (by simp at hs; rcases hs with h | h <;> simp [h]), by decide +kernel⟩, rfl, by decide⟩
theorem lsX : lsV true [tX] [1] = true := (lsV_iff _ _ _).2 ⟨by decide, ⟨fun s hs => chk_all (by simp at hs; simp [hs]), by decide +kernel⟩, rfl, by decide⟩
theorem lsBA : lsV true [tB, tA] [2, 3] = false := by
  rw [Bool.eq_false_iff]
  intro h
  have := ((lsV_iff _ _ _).1 h).2.1.2
  exact absurd this (by decide +kernel)
theorem headD : diffV [tA, tB] [2, 3] [tB, tC] [3, 9] = (false, [tA, tC], [0, 9], 0) := by
  have e1 : dN [tA, tB] [2, 3] [tB, tC] [3, 9] = [tA, tC] := by decide +kernel
  have e2 : dM [tA, tB] [2, 3] [tB, tC] [3, 9] = [0, 9] := by decide +kernel
  unfold diffV
  rw [if_pos ⟨lsAB, lsBC⟩, e1, e2, if_pos lsAC]
theorem headM1 : mergeV [tA, tB] [2, 3] false [tA, tC] [0, 9] = ([tB, tC], [3, 9], 0) := by
  have e1 : mN [tA, tB] [2, 3] false [tA, tC] [0, 9] = [tB, tC] := by decide +kernel
  unfold mergeV
  rw [if_pos ⟨lsAC, lsAB⟩, e1]
  have : ([tB, tC].map fun s => valM [tA, tB] [2, 3] false [tA, tC] [0, 9] (toL s)) = [3, 9] := by decide +kernel
  rw [this]
theorem headO : opaqueV [tX] [1] = (true, [tX], [1], 0) := if_pos lsX
theorem headM2 : mergeV [tA, tB] [2, 3] true [tX] [1] = ([tX], [1], 0) := by
  have e1 : mN [tA, tB] [2, 3] true [tX] [1] = [tX] := by decide +kernel
  unfold mergeV
  rw [if_pos ⟨lsX, lsAB⟩, e1]
  have : ([tX].map fun s => valM [tA, tB] [2, 3] true [tX] [1] (toL s)) = [1] := by decide +kernel
  rw [this]
theorem headM3 : mergeV [tB, tA] [2, 3] true [tX] [1] = ([], [], 2) := by
  unfold mergeV
  rw [if_neg (fun h => by rw [lsBA] at h; cases h.2)]
theorem heads_ev : Ev (fun k => l21_heads.f k) true := by
  have d := diff_ev [tA, tB] [2, 3] [tB, tC] [3, 9] (by decide) (by decide)
  have m1 := merge_ev [tA, tB] [2, 3] false [tA, tC] [0, 9] (by decide) (by decide)
  have o := opaque_ev [tX] [1] (by decide)
  have m2 := merge_ev [tA, tB] [2, 3] true [tX] [1] (by decide) (by decide)
  have m3 := merge_ev [tB, tA] [2, 3] true [tX] [1] (by decide) (by decide)
  rw [headD] at d
  rw [headM1] at m1
  rw [headO] at o
  rw [headM2] at m2
  rw [headM3] at m3
  unfold l21_heads.f
  refine Ev.bind d (Ev.bind m1 (Ev.bind o (Ev.bind m2 (Ev.bind m3 ?_))))
  simp only [if_true]
  refine Ev.bind (texts_ev [tA, tC] (by decide)) ?_
  simp only [if_true]
  refine Ev.bind (ints_ev [0, 9] (by decide)) ?_
  simp only [if_true]
  refine Ev.bind (texts_ev [tB, tC] (by decide)) ?_
  simp only [if_true]
  refine Ev.bind (ints_ev [3, 9] (by decide)) ?_
  simp only [if_true]
  refine Ev.bind (texts_ev [tX] (by decide)) ?_
  simp only [if_true]
  refine Ev.bind (ints_ev [1] (by decide)) ?_
  simp only [if_true]
  exact Ev.now _
end Go.Proofs.YtigbmfogfgbmfaaDoor.Pure
