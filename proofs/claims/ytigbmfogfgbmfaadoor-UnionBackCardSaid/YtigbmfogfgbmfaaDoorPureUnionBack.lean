import Derived.Test.YtigbmfogfgbmfaaDoorUnC
import Derived.Test.YtigbmfogfgbmfaaDoorHx0
import Derived.Test.YtigbmfogfgbmfaaDoorHx13
namespace Go.Proofs.YtigbmfogfgbmfaaDoor.Pure
open Go.RowKit Go.Proofs.YtigbmfogfgbmfaaDoor.Fn Go.Proofs.YtigbmfogfgbmfaaDoorW.PrintWords Go.Proofs.YtigbmfogfgbmfaaDoorW.PrintLast Go.Proofs.YtigbmfogfgbmfaaDoor.U
set_option linter.unusedVariables false
set_option linter.unusedSimpArgs false
theorem numL_of (g : List UInt8 → Int) (x : List UInt8) : ∀ L : List ByteArray, numL L (L.map fun s => g (toL s)) x = if x ∈ L.map toL then some (g x) else none
  | [] => rfl
  | s :: L => by
    show (if toL s = x then some (g (toL s)) else numL L (L.map fun s => g (toL s)) x) = _
    rw [numL_of g x L]
    by_cases c : toL s = x
    · subst c; rw [if_pos rfl, if_pos (by simp)]
    · rw [if_neg c]
      by_cases d : x ∈ L.map toL
      · rw [if_pos d, if_pos (show x ∈ List.map toL (s :: L) from List.mem_cons_of_mem _ d)]
      · rw [if_neg d, if_neg (show ¬ x ∈ List.map toL (s :: L) from fun h => (List.mem_cons.1 h).elim (fun h => c h.symm) d)]
theorem nums_eq : ∀ (L : List ByteArray) (N : List Int), Rises L → N.length = L.length → N = L.map fun s => (numL L N (toL s)).getD 0
  | [], N, _, h => List.eq_nil_of_length_eq_zero h
  | s :: L, [], _, h => by simp at h
  | s :: L, v :: N, hr, h => by
    have ih := nums_eq L N (List.pairwise_cons.1 hr).2 (by simpa using h)
    rw [List.map_cons]
    congr 1
    · show v = (if toL s = toL s then some v else numL L N (toL s)).getD 0
      rw [if_pos rfl]; rfl
    · conv => lhs; rw [ih]
      refine List.map_congr_left fun t ht => ?_
      show _ = (if toL s = toL t then some v else numL L N (toL t)).getD 0
      rw [if_neg (fun e => rises_notin hr (List.mem_map.2 ⟨t, ht, e.symm⟩))]
theorem map_toL_inj : ∀ (a b : List ByteArray), a.map toL = b.map toL → a = b
  | [], [], _ => rfl
  | [], y :: b, h => by simp at h
  | x :: a, [], h => by simp at h
  | x :: a, y :: b, h => by
    rw [List.map_cons, List.map_cons] at h
    injection h with h1 h2
    rw [toL_inj h1, map_toL_inj a b h2]
theorem rises_ext {a b : List ByteArray} (ha : Rises a) (hb : Rises b) (h : ∀ x, x ∈ a.map toL ↔ x ∈ b.map toL) : a = b := by
  have hp : (a.map toL).Perm (b.map toL) := (List.perm_ext_iff_of_nodup (rises_nodup (rises_map ha)) (rises_nodup (rises_map hb))).2 h
  have := mergeSort_of_perm hp
  rw [sort_rises (rises_map ha), sort_rises (rises_map hb)] at this
  exact map_toL_inj a b this
theorem mem_isSome {l : List ByteArray} {n : List Int} (h : n.length = l.length) (x : List UInt8) : x ∈ l.map toL ↔ (numL l n x).isSome = true := by
  constructor
  · intro hx; obtain ⟨v, hv⟩ := numL_some (n := n) (by omega) hx; rw [hv]; rfl
  · intro hx
    obtain ⟨v, hv⟩ := Option.isSome_iff_exists.1 hx
    exact (numL_mem hv).1
theorem rows_ext {a b : List ByteArray} {m n : List Int} (ha : Rises a) (hb : Rises b) (hm : m.length = a.length) (hn : n.length = b.length) (h : ∀ x, numL a m x = numL b n x) : a = b ∧ m = n := by
  have e : a = b := rises_ext ha hb fun x => by rw [mem_isSome hm, mem_isSome hn, h]
  subst e
  refine ⟨rfl, ?_⟩
  rw [nums_eq a m ha hm, nums_eq a n ha hn]
  exact List.map_congr_left fun s _ => by rw [h]
theorem merged_num (l0 : List ByteArray) (l1 : List Int) (o : Bool) (l2 : List ByteArray) (l3 : List Int) (x : List UInt8) : numL (mN l0 l1 o l2 l3) ((mN l0 l1 o l2 l3).map fun s => valM l0 l1 o l2 l3 (toL s)) x = if 0 < valM l0 l1 o l2 l3 x then some (valM l0 l1 o l2 l3 x) else none := by
  rw [numL_of (fun y => valM l0 l1 o l2 l3 y) x]
  by_cases c : 0 < valM l0 l1 o l2 l3 x
  · rw [if_pos (mN_mem x |>.2 c), if_pos c]
  · rw [if_neg (fun h => c (mN_mem x |>.1 h)), if_neg c]
theorem pos_num {l : List ByteArray} {n : List Int} (h : W true l n) (x : List UInt8) : (if 0 < numV l n x then some (numV l n x) else none) = numL l n x := by
  unfold numV
  cases e : numL l n x with
  | none => rfl
  | some v => have hv := h.nums v (numL_mem e).2; have := hv.2.2 rfl; simp; omega
theorem dM_num {l0 : List ByteArray} {l1 : List Int} {l2 : List ByteArray} {l3 : List Int} (h0 : W true l0 l1) (h2 : W true l2 l3) (x : List UInt8) : numL (dN l0 l1 l2 l3) (dM l0 l1 l2 l3) x = if numL l0 l1 x ≠ numL l2 l3 x then some ((numL l2 l3 x).getD 0) else none := by
  unfold dM
  rw [numL_of (fun y => mx (numV l2 l3 y) 0) x]
  by_cases c : numL l0 l1 x ≠ numL l2 l3 x
  · rw [if_pos ((dN_mem h0 h2 x).2 c), if_pos c, mx_num h2]
  · rw [if_neg (fun h => c ((dN_mem h0 h2 x).1 h)), if_neg c]
theorem back_diff {l0 : List ByteArray} {l1 : List Int} {l2 : List ByteArray} {l3 : List Int} (h0 : W true l0 l1) (h2 : W true l2 l3) : mN l0 l1 false (dN l0 l1 l2 l3) (dM l0 l1 l2 l3) = l2 ∧ ((mN l0 l1 false (dN l0 l1 l2 l3) (dM l0 l1 l2 l3)).map fun s => valM l0 l1 false (dN l0 l1 l2 l3) (dM l0 l1 l2 l3) (toL s)) = l3 := by
  refine rows_ext ((all_rises h0.rise (dN_rises h0 h2)).filter _) h2.rise (List.length_map ..) h2.eq fun x => ?_
  rw [merged_num]
  have hd := dM_num h0 h2 x
  by_cases c : numL l0 l1 x ≠ numL l2 l3 x
  · rw [if_pos c] at hd
    have hv : numV (dN l0 l1 l2 l3) (dM l0 l1 l2 l3) x = (numL l2 l3 x).getD 0 := by unfold numV; rw [hd]; rfl
    have hn : ¬ (numL l2 l3 x).getD 0 < 0 := by
      cases e : numL l2 l3 x with
      | none => decide
      | some v => have := h2.nonneg v (numL_mem e).2; simp; omega
    unfold valM
    rw [hv, if_neg (show ¬ ((numL l2 l3 x).getD 0 < 0 ∧ false = false) from fun h => hn h.1)]
    cases e : numL l2 l3 x with
    | none => rfl
    | some v => have hw := h2.nums v (numL_mem e).2; have := hw.2.2 rfl; simp; omega
  · rw [if_neg c] at hd
    have hv : numV (dN l0 l1 l2 l3) (dM l0 l1 l2 l3) x = -1 := by unfold numV; rw [hd]; rfl
    unfold valM
    rw [hv, if_pos (show (-1 : Int) < 0 ∧ false = false from ⟨by decide, rfl⟩), pos_num h0]
    exact Classical.not_not.1 c
theorem back_opaque {l0 : List ByteArray} {l1 : List Int} {l2 : List ByteArray} {l3 : List Int} (h0 : W true l0 l1) (h2 : W true l2 l3) : mN l0 l1 true l2 l3 = l2 ∧ ((mN l0 l1 true l2 l3).map fun s => valM l0 l1 true l2 l3 (toL s)) = l3 := by
  refine rows_ext ((all_rises h0.rise h2.rise).filter _) h2.rise (List.length_map ..) h2.eq fun x => ?_
  rw [merged_num]
  unfold valM
  rw [if_neg (show ¬ (numV l2 l3 x < 0 ∧ true = false) from fun h => absurd h.2 (by decide)), pos_num h2]
theorem back_less {l0 : List ByteArray} {l1 : List Int} {l2 : List ByteArray} {l3 : List Int} (h0 : W true l0 l1) (h2 : W true l2 l3) (i : Nat) (hi : i < (dN l0 l1 l2 l3).length) (m : List Int) :
    ¬ (mN l0 l1 false ((dN l0 l1 l2 l3).take i ++ (dN l0 l1 l2 l3).drop (i + 1)) m = l2 ∧ ((mN l0 l1 false ((dN l0 l1 l2 l3).take i ++ (dN l0 l1 l2 l3).drop (i + 1)) m).map fun s => valM l0 l1 false ((dN l0 l1 l2 l3).take i ++ (dN l0 l1 l2 l3).drop (i + 1)) m (toL s)) = l3) := by
  rintro ⟨e1, e2⟩
  have hr := dN_rises h0 h2
  have hx := (dN_mem h0 h2 (toL (dN l0 l1 l2 l3)[i])).1 (List.mem_map.2 ⟨_, List.getElem_mem hi, rfl⟩)
  have hno : numL ((dN l0 l1 l2 l3).take i ++ (dN l0 l1 l2 l3).drop (i + 1)) m (toL (dN l0 l1 l2 l3)[i]) = none := by
    cases e : numL ((dN l0 l1 l2 l3).take i ++ (dN l0 l1 l2 l3).drop (i + 1)) m (toL (dN l0 l1 l2 l3)[i]) with
    | none => rfl
    | some v =>
      obtain ⟨t, ht, et⟩ := List.mem_map.1 (numL_mem e).1
      have hlt : ∀ a b : ByteArray, Lt (toL a) (toL b) → toL a ≠ toL b := fun a b h e => by
        have h' : Op.bytesLess (toL a) (toL b) = true := h
        rw [e, bytesLess_irrefl] at h'; cases h'
      have hr := List.pairwise_iff_getElem.1 hr
      rcases List.mem_append.1 ht with ht | ht
      · obtain ⟨j, hj, rfl⟩ := List.getElem_of_mem ht
        rw [List.length_take] at hj
        rw [List.getElem_take] at et
        exact absurd et (hlt _ _ (hr j i (by omega) hi (by omega)))
      · obtain ⟨j, hj, rfl⟩ := List.getElem_of_mem ht
        rw [List.length_drop] at hj
        rw [List.getElem_drop] at et
        exact absurd et.symm (hlt _ _ (hr i (i + 1 + j) hi (by omega) (by omega)))
  have hm := merged_num l0 l1 false ((dN l0 l1 l2 l3).take i ++ (dN l0 l1 l2 l3).drop (i + 1)) m (toL (dN l0 l1 l2 l3)[i])
  rw [e2, e1] at hm
  have hv : valM l0 l1 false ((dN l0 l1 l2 l3).take i ++ (dN l0 l1 l2 l3).drop (i + 1)) m (toL (dN l0 l1 l2 l3)[i]) = numV l0 l1 (toL (dN l0 l1 l2 l3)[i]) := by
    unfold valM
    rw [if_pos ⟨by unfold numV; rw [hno]; decide, rfl⟩]
  rw [hv, pos_num h0] at hm
  exact hx hm.symm
theorem texts_loop2 (a b : List ByteArray) (hl : a.length = b.length) (ha : a.length < 1099511627776) (d : Nat) : ∀ i : Nat, i + d = a.length → Ev (fun k => q01_Texts.l0 k a b (i : Int)) (decide (a.drop i = b.drop i)) := by
  induction d with
  | zero =>
    intro i hi
    rw [List.drop_eq_nil_of_le (by omega), List.drop_eq_nil_of_le (by omega), decide_eq_true rfl]
    exact Ev.step (f := fun _ => some true) (fun k => by simp only [q01_Texts.l0]; rw [if_neg (by omega)]) (Ev.now _)
  | succ d ih =>
    intro i hi
    have hw : wrap64 ((i : Int) + 1) = ((i + 1 : Nat) : Int) := by rw [w64 (by omega) (by omega)]; omega
    have e1 : rdOf ByteArray.empty a (i : Int) = a[i] := rdOf_at _ a i (by omega)
    have e2 : rdOf ByteArray.empty b (i : Int) = b[i] := rdOf_at _ b i (by omega)
    have ih := ih (i + 1) (by omega)
    have hd : decide (a.drop i = b.drop i) = if toL a[i] = toL b[i] then decide (a.drop (i + 1) = b.drop (i + 1)) else false := by
      rw [List.drop_eq_getElem_cons (show i < a.length by omega), List.drop_eq_getElem_cons (show i < b.length by omega)]
      by_cases c : toL a[i] = toL b[i]
      · rw [if_pos c]; exact decide_eq_decide.2 ⟨fun e => (List.cons.inj e).2, fun e => by rw [toL_inj c, e]⟩
      · rw [if_neg c]; exact decide_eq_false fun e => by injection e with e _; exact c (by rw [e])
    rw [hd]
    refine Ev.step (f := fun k => if toL a[i] = toL b[i] then q01_Texts.l0 k a b ((i + 1 : Nat) : Int) else some false) (fun k => by
      simp only [q01_Texts.l0]; rw [if_pos (by omega), if_pos (by omega), if_pos (by omega), e1, e2, Lib.toList_data, Lib.toList_data, hw]) ?_
    by_cases c : toL a[i] = toL b[i]
    · simp only [if_pos c]; exact ih
    · simp only [if_neg c]; exact Ev.now _
theorem texts_ev2 (a b : List ByteArray) (ha : a.length < 1099511627776) : Ev (fun k => q01_Texts.f k a b) (decide (a = b)) := by
  unfold q01_Texts.f
  by_cases c : (a.length : Int) = (b.length : Int)
  · simp only [if_pos c]
    have := texts_loop2 a b (by omega) ha a.length 0 (by omega)
    rw [List.drop_zero, List.drop_zero] at this
    exact this
  · simp only [if_neg c]
    rw [decide_eq_false (fun e => c (by rw [e]))]
    exact Ev.now _
theorem ints_loop2 (a b : List Int) (hl : a.length = b.length) (ha : a.length < 1099511627776) (d : Nat) : ∀ i : Nat, i + d = a.length → Ev (fun k => q06_Ints.l0 k a b (i : Int)) (decide (a.drop i = b.drop i)) := by
  induction d with
  | zero =>
    intro i hi
    rw [List.drop_eq_nil_of_le (by omega), List.drop_eq_nil_of_le (by omega), decide_eq_true rfl]
    exact Ev.step (f := fun _ => some true) (fun k => by simp only [q06_Ints.l0]; rw [if_neg (by omega)]) (Ev.now _)
  | succ d ih =>
    intro i hi
    have hw : wrap64 ((i : Int) + 1) = ((i + 1 : Nat) : Int) := by rw [w64 (by omega) (by omega)]; omega
    have e1 : rd a (i : Int) = a[i] := Go.Proofs.YtigbmfogfgbmfaaDoorW.PrintWords.rd_at a i (by omega)
    have e2 : rd b (i : Int) = b[i] := Go.Proofs.YtigbmfogfgbmfaaDoorW.PrintWords.rd_at b i (by omega)
    have ih := ih (i + 1) (by omega)
    have hd : decide (a.drop i = b.drop i) = if a[i] = b[i] then decide (a.drop (i + 1) = b.drop (i + 1)) else false := by
      rw [List.drop_eq_getElem_cons (show i < a.length by omega), List.drop_eq_getElem_cons (show i < b.length by omega)]
      by_cases c : a[i] = b[i]
      · rw [if_pos c]; exact decide_eq_decide.2 ⟨fun e => (List.cons.inj e).2, fun e => by rw [c, e]⟩
      · rw [if_neg c]; exact decide_eq_false fun e => by injection e with e _; exact c e
    rw [hd]
    refine Ev.step (f := fun k => if a[i] = b[i] then q06_Ints.l0 k a b ((i + 1 : Nat) : Int) else some false) (fun k => by
      simp only [q06_Ints.l0]; rw [if_pos (by omega), if_pos (by omega), if_pos (by omega), e1, e2, hw]) ?_
    by_cases c : a[i] = b[i]
    · simp only [if_pos c]; exact ih
    · simp only [if_neg c]; exact Ev.now _
theorem ints_ev2 (a b : List Int) (ha : a.length < 1099511627776) : Ev (fun k => q06_Ints.f k a b) (decide (a = b)) := by
  unfold q06_Ints.f
  by_cases c : (a.length : Int) = (b.length : Int)
  · simp only [if_pos c]
    have := ints_loop2 a b (by omega) ha a.length 0 (by omega)
    rw [List.drop_zero, List.drop_zero] at this
    exact this
  · simp only [if_neg c]
    rw [decide_eq_false (fun e => c (by rw [e]))]
    exact Ev.now _
theorem less_W {o : Bool} {l : List ByteArray} {n : List Int} (h : W o l n) (i : Nat) (hi : i < l.length) : W o (l.take i ++ l.drop (i + 1)) (n.take i ++ n.drop (i + 1)) := by
  have hs : (l.take i ++ l.drop (i + 1)).Sublist l := by rw [← List.eraseIdx_eq_take_drop_succ]; exact List.eraseIdx_sublist l i
  have hs2 : (n.take i ++ n.drop (i + 1)).Sublist n := by rw [← List.eraseIdx_eq_take_drop_succ]; exact List.eraseIdx_sublist n i
  have e := h.eq
  exact ⟨Nat.le_trans hs.length_le h.len, fun s hs' => h.chk s (hs.subset hs'), h.rise.sublist hs, by simp; omega, fun x hx => h.nums x (hs2.subset hx)⟩
theorem back_loop {l0 : List ByteArray} {l1 : List Int} {l2 : List ByteArray} {l3 : List Int} (h0 : W true l0 l1) (h2 : W true l2 l3) (hd : W false (dN l0 l1 l2 l3) (dM l0 l1 l2 l3)) (d : Nat) : ∀ i : Nat, i + d = (dN l0 l1 l2 l3).length → Ev (fun k => bkLoop k l0 l1 l2 l3 (dN l0 l1 l2 l3) (dM l0 l1 l2 l3) d i) () := by
  have w0 := h0.len
  have w2 := h2.len
  induction d with
  | zero => intro i hi; exact Ev.now _
  | succ d ih =>
    intro i hi
    have hw := less_W hd i (by omega)
    have hne := back_less h0 h2 i (by omega) ((dM l0 l1 l2 l3).take i ++ (dM l0 l1 l2 l3).drop (i + 1))
    have wl := hw.len
    have hm := merge_ev l0 l1 false ((dN l0 l1 l2 l3).take i ++ (dN l0 l1 l2 l3).drop (i + 1)) ((dM l0 l1 l2 l3).take i ++ (dM l0 l1 l2 l3).drop (i + 1)) (by omega) (by omega)
    have hlen : (mN l0 l1 false ((dN l0 l1 l2 l3).take i ++ (dN l0 l1 l2 l3).drop (i + 1)) ((dM l0 l1 l2 l3).take i ++ (dM l0 l1 l2 l3).drop (i + 1))).length ≤ l0.length + ((dN l0 l1 l2 l3).take i ++ (dN l0 l1 l2 l3).drop (i + 1)).length := Nat.le_trans (List.length_filter_le _ _) (mg_length _ _ _)
    unfold mergeV at hm
    rw [if_pos ⟨hw.to, h0.to⟩] at hm
    simp only [bkLoop]
    refine Ev.bind hm ?_
    simp only [if_true]
    refine Ev.bind (texts_ev2 _ l2 (by omega)) ?_
    refine Ev.bind (ints_ev2 _ l3 (by rw [List.length_map]; omega)) ?_
    refine Ev.congr (fun k => if_neg ?_) (ih (i + 1) (by omega))
    rintro ⟨q1, q2⟩
    exact hne ⟨of_decide_eq_true q1, of_decide_eq_true q2⟩
theorem UnionBack : l21_UnionBack.Pure := by
  intro l0 l1 l2 l3 _ _ _ _
  refine Ev.rounds (g := fun k => l21_UnionBack.f k l0 l1 l2 l3) ?_
  unfold l21_UnionBack.f
  by_cases cg : 400 < l0.length ∨ 400 < l2.length
  · simp only [if_pos cg]; exact heads_ev
  simp only [if_neg cg]
  refine Ev.bind (diff_ev l0 l1 l2 l3 (by omega) (by omega)) ?_
  unfold diffV
  by_cases cv : lsV true l0 l1 = true ∧ lsV true l2 l3 = true
  case neg =>
    rw [if_neg cv]
    exact Ev.congr (fun k => (if_neg (show ¬ ((2 : Int) = 0) by decide)).trans (if_pos (show ([] : List ByteArray).length = 0 from rfl))) heads_ev
  rw [if_pos cv]
  by_cases cd : lsV false (dN l0 l1 l2 l3) (dM l0 l1 l2 l3) = true
  case neg =>
    rw [if_neg cd]
    exact Ev.congr (fun k => (if_neg (show ¬ ((80 : Int) = 0) by decide)).trans (if_pos (show ([] : List ByteArray).length = 0 from rfl))) heads_ev
  rw [if_pos cd]
  have h0 := W.of cv.1
  have h2 := W.of cv.2
  have hd := W.of cd
  have w0 := h0.len
  have w2 := h2.len
  have e2 := h2.eq
  have wd := hd.len
  have ed := hd.eq
  obtain ⟨b1, b2⟩ := back_diff h0 h2
  obtain ⟨p1, p2⟩ := back_opaque h0 h2
  have m1 := merge_ev l0 l1 false (dN l0 l1 l2 l3) (dM l0 l1 l2 l3) (by omega) (by omega)
  have m2 := merge_ev l0 l1 true l2 l3 (by omega) (by omega)
  have op := opaque_ev l2 l3 (by omega)
  unfold mergeV at m1 m2
  unfold opaqueV at op
  rw [if_pos ⟨cd, cv.1⟩, b2, b1] at m1
  rw [if_pos ⟨cv.2, cv.1⟩, p2, p1] at m2
  rw [if_pos cv.2] at op
  simp only [if_true]
  refine Ev.bind m1 (Ev.bind op (Ev.bind m2 (Ev.bind (texts_ev l2 (by omega)) (Ev.bind (ints_ev l3 (by omega)) (Ev.bind (texts_ev l2 (by omega)) (Ev.bind (ints_ev l3 (by omega)) ?_))))))
  refine Ev.congr (fun k => if_pos ⟨⟨rfl, rfl, rfl⟩, ⟨rfl, rfl, rfl, rfl⟩, ed, by show (dN l0 l1 l2 l3).length < _; omega⟩) ?_
  exact Ev.bind (back_loop h0 h2 hd _ 0 (by show 0 + (dN l0 l1 l2 l3).length = _; omega)) heads_ev
end Go.Proofs.YtigbmfogfgbmfaaDoor.Pure
