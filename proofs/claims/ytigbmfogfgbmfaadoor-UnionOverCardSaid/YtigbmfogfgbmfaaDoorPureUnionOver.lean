import Derived.Test.YtigbmfogfgbmfaaDoorUnC
import Derived.Test.YtigbmfogfgbmfaaDoorHx0
import Derived.Test.YtigbmfogfgbmfaaDoorHx6
namespace Go.Proofs.YtigbmfogfgbmfaaDoor.Pure
open Go.RowKit Go.Proofs.YtigbmfogfgbmfaaDoor.Fn Go.Proofs.YtigbmfogfgbmfaaDoorW.PrintWords Go.Proofs.YtigbmfogfgbmfaaDoorW.PrintLast Go.Proofs.YtigbmfogfgbmfaaDoor.U
set_option linter.unusedVariables false
set_option linter.unusedSimpArgs false
theorem over_great (l0 : List ByteArray) (l1 : List Int) (o : Bool) (l2 : List ByteArray) (l3 : List Int) (s : ByteArray) : Ev (fun k => l21_UnionOver.j0 k l0 l1 s true o l2 l3) true :=
  Ev.step (fun k => by simp only [l21_UnionOver.j0]; rw [if_pos (by trivial)]) heads_bind
theorem numL_map (g : List UInt8 → Int) (x : List UInt8) : ∀ L : List ByteArray, numL L (L.map fun s => g (toL s)) x = if x ∈ L.map toL then some (g x) else none
  | [] => rfl
  | s :: L => by
    show (if toL s = x then some (g (toL s)) else numL L (L.map fun s => g (toL s)) x) = _
    rw [numL_map g x L]
    by_cases c : toL s = x
    · subst c; rw [if_pos rfl, if_pos (by simp)]
    · rw [if_neg c]
      by_cases d : x ∈ L.map toL
      · rw [if_pos d, if_pos (show x ∈ List.map toL (s :: L) from List.mem_cons_of_mem _ d)]
      · rw [if_neg d, if_neg (show ¬ x ∈ List.map toL (s :: L) from fun h => (List.mem_cons.1 h).elim (fun h => c h.symm) d)]
theorem over_num (l0 : List ByteArray) (l1 : List Int) (o : Bool) (l2 : List ByteArray) (l3 : List Int) (x : List UInt8) : mx (numV (mN l0 l1 o l2 l3) ((mN l0 l1 o l2 l3).map fun s => valM l0 l1 o l2 l3 (toL s)) x) 0 = mx (valM l0 l1 o l2 l3 x) 0 := by
  unfold numV
  rw [numL_map (fun y => valM l0 l1 o l2 l3 y) x]
  by_cases c : 0 < valM l0 l1 o l2 l3 x
  · rw [if_pos (mN_mem x |>.2 c)]; rfl
  · rw [if_neg (fun h => c (mN_mem x |>.1 h))]
    show mx (-1) 0 = _
    unfold mx
    rw [if_pos (by decide)]
    split <;> omega
theorem UnionOver : l21_UnionOver.Pure := by
  intro l0 l1 o l2 l3 s h0 h1 h2 h3 hs
  have b0 := h0.2.1
  have b2 := h2.2.1
  refine Ev.rounds (g := fun k => l21_UnionOver.f k l0 l1 o l2 l3 s) ?_
  unfold l21_UnionOver.f
  by_cases c0 : (l0.length : Int) > 400
  · simp only [if_pos c0]; exact over_great l0 l1 o l2 l3 s
  simp only [if_neg c0]
  by_cases c2 : (l2.length : Int) > 400
  · rw [decide_eq_true c2]; exact over_great l0 l1 o l2 l3 s
  rw [decide_eq_false c2]
  refine Ev.step (fun k => by simp only [l21_UnionOver.j0]; rw [if_neg (by decide)]) ?_
  refine Ev.bind (merge_ev l0 l1 o l2 l3 (by omega) (by omega)) ?_
  unfold mergeV
  by_cases hv : lsV o l2 l3 = true ∧ lsV true l0 l1 = true
  case neg =>
    rw [if_neg hv]
    refine Ev.congr (fun k => if_neg (show ¬ ((2 : Int) = 0) by decide)) ?_
    refine Ev.congr (fun k => if_pos (show wrap64 ((([] : List ByteArray).length : Int) + (([] : List Int).length : Int)) = 0 by rw [w64 (by decide) (by decide)]; rfl)) heads_bind
  rw [if_pos hv]
  simp only [if_true]
  have hlen : (mN l0 l1 o l2 l3).length ≤ l0.length + l2.length := Nat.le_trans (List.length_filter_le _ _) (mg_length _ _ _)
  refine Ev.bind (lawnumber_ev _ _ s (by omega)) ?_
  refine Ev.bind (lawnumber_ev l2 l3 s (by omega)) ?_
  rw [over_num]
  have hfin : ∀ v : Int, v = valM l0 l1 o l2 l3 (toL s) → Ev (fun k => if mx (valM l0 l1 o l2 l3 (toL s)) 0 = mx v 0 then ((l21_heads.f k).bind fun t => some t) else some false) true := by
    rintro v rfl
    exact Ev.congr (fun k => if_pos rfl) heads_bind
  have hdown : ∀ v : Int, v = valM l0 l1 o l2 l3 (toL s) → Ev (fun k => l21_UnionOver.j1 k l0 l1 s (mx (valM l0 l1 o l2 l3 (toL s)) 0) v false) true := fun v hv =>
    Ev.step (fun k => by simp only [l21_UnionOver.j1]; rw [if_neg (by decide)]) (hfin v hv)
  by_cases c : numV l2 l3 (toL s) < 0
  · simp only [if_pos c]
    cases o with
    | true => exact hdown _ (by unfold valM; rw [if_neg (fun h => absurd h.2 (by decide))])
    | false =>
      refine Ev.step (fun k => by simp only [l21_UnionOver.j1]; rw [if_pos (by rfl)]) ?_
      exact Ev.bind (lawnumber_ev l0 l1 s (by omega)) (hfin _ (by unfold valM; rw [if_pos ⟨c, rfl⟩]))
  · simp only [if_neg c]
    exact hdown _ (by unfold valM; rw [if_neg (fun h => c h.1)])
end Go.Proofs.YtigbmfogfgbmfaaDoor.Pure
