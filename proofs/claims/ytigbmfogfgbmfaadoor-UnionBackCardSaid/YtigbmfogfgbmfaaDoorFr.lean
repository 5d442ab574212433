import Derived.Test.YtigbmfogfgbmfaaDoorX
namespace Go.Proofs.YtigbmfogfgbmfaaDoorW.PrintWords
open Go.RowKit
set_option linter.unusedVariables false
set_option linter.unusedSimpArgs false
section
variable {P : Program} {ops : Array Oper} {md : Region.Mode}
theorem free_headL {Q : Exit → Act → World → Prop} {A : (Nat → Value) → Act} {anc : Nat → List Nat} {Step : World → World → Prop} {B : World → Prop} {R : Nat → List Value → Value → World → Prop} {J : (Nat → Bool) → (Nat → Value) → World → Prop} {u0 : Nat → Value} {n : Nat} (hn : n < ops.size)
    (hs : Region.sinkB md ops n = true) (hc : Region.chainB md ops n = true) (hseq : Region.seqB md ops (ops.size - n) n ((Array.range ops.size).map fun i => decide (i < n)) = true)
    (hanc : ancB md ops anc = true) (hA : ∀ u k v o, ops[k]? = some o → (A u).put o.dst v = A (upd u k v)) (hB : ∀ W W', Step W W' → B W → B W') (hR : ∀ k us v W W', Step W W' → R k us v W → R k us v W')
    (spec : ∀ k o, k < n → ops[k]? = some o → ∀ (L : Nat → Bool) u W, B W → J L u W → L k = false → (∀ j, L j = true → ∀ i ∈ anc j, L i = true) → (∀ j ∈ anc k, L j = true ∧ R j ((anc j).map u) (u j) W) → FreeStep P ops Q Step o (A u) W (fun v W' => R k ((anc k).map u) v W' ∧ J (fun j => if j = k then true else L j) (upd u k v) W'))
    (fin : ∀ (L : Nat → Bool) u W, B W → J L u W → (∀ k, k < n → L k = true) → (∀ k, k < n → R k ((anc k).map u) (u k) W) → wpList P ops Q (ops.toList.drop n) (A u) W) :
    ∀ (fuel : Nat) (listed : Array Bool) (u : Nat → Value) (W : World), HeadInv md ops n listed → ((List.range n).countP fun i_ => !listed.getD i_ true) = fuel → (∀ j, listed.getD j false = true → ∀ i ∈ anc j, listed.getD i false = true) → B W → J (fun j => listed.getD j false) u W → (∀ j, listed.getD j false = false → u j = u0 j) →
      (∀ j, listed.getD j false = true → R j ((anc j).map u) (u j) W) → wpAny P md ops Q (fuel + (ops.size - n)) listed (A u) W := by
  have hat : ∀ k o, ops[k]? = some o → (∀ e ∈ o.after, Region.binds md e = true → e.on < k) ∧ ∀ i ∈ anc k, i < k ∧ ∃ e ∈ o.after, Region.binds md e = true ∧ (e.on = i ∨ i ∈ anc e.on) := by
    intro k o ho
    have hk : k < ops.size := (Array.getElem?_eq_some_iff.1 ho).1
    have h := List.all_eq_true.1 hanc k (List.mem_range.2 hk)
    rw [ho] at h
    simp only [Bool.and_eq_true, Array.all_eq_true_iff_forall_mem, List.all_eq_true, Bool.or_eq_true, Bool.not_eq_true', decide_eq_true_eq, Array.any_eq_true'] at h
    obtain ⟨h1, h2⟩ := h
    refine ⟨fun e he hb => (h1 e he).elim (fun h => by rw [hb] at h; cases h) id, fun i hi => ?_⟩
    obtain ⟨h3, e, he, hb⟩ := h2 i hi
    refine ⟨h3, e, he, hb.1, hb.2.imp (fun h => by simpa using h) (fun h => by simpa using h)⟩
  have both : ∀ (listed : Array Bool) (i : Nat), listed.size = ops.size → i < ops.size → listed.getD i true = listed.getD i false := by
    intro listed i hs hi
    have : i < listed.size := by omega
    simp [this]
  intro fuel
  induction fuel with
  | zero =>
    intro listed u W inv hl hcl hb hj hun hr
    have hall : ∀ i, i < n → listed.getD i true = true := by
      intro i hi
      have := List.countP_eq_zero.1 hl i (List.mem_range.2 hi)
      simpa using this
    have he : listed = (Array.range ops.size).map fun i => decide (i < n) := by
      apply Array.ext
      · simp [inv.size]
      · intro i h1 h2
        have hi : i < ops.size := by rw [← inv.size]; exact h1
        by_cases hin : i < n
        · have := hall i hin
          simp [h1] at this
          simp [this, hin]
        · have := inv.tail i (by omega) hi
          simp [h1] at this
          simp [this, hin]
    rw [Nat.zero_add]
    have hlen : (ops.toList.drop n).length = ops.size - n := by simp
    rw [← hlen]
    refine wpAny_of_seq (ops.toList.drop n) n listed (A u) W (fun j => by simp [List.getElem?_drop]) (by rw [hlen, he]; exact hseq) (fin _ u W hb hj (fun k hk => by rw [← both _ _ inv.size (by omega)]; exact hall k hk) (fun k hk => hr k (by rw [← both _ _ inv.size (by omega)]; exact hall k hk)))
  | succ fuel ih =>
    intro listed u W inv hl hcl hb hj hun hr
    rw [show fuel + 1 + (ops.size - n) = (fuel + (ops.size - n)) + 1 by omega]
    have hpos : 0 < (List.range n).countP fun i => !listed.getD i true := by
      have : ((List.range n).countP fun i_ => !listed.getD i_ true) = fuel + 1 := hl
      omega
    obtain ⟨m, hm, hp⟩ := List.countP_pos_iff.1 hpos
    obtain ⟨i0, hi0m, hpi, hmin⟩ := least_of (p := fun i => listed.getD i true = false) m (by simpa using hp)
    have hi0 : i0 < n := by have := List.mem_range.1 hm; omega
    refine ⟨fun h0 => ?_, fun i hi => ?_⟩
    · exfalso
      have hi : i0 < ops.size := by omega
      obtain ⟨o, ho⟩ : ∃ o, ops[i0]? = some o := ⟨ops[i0], Array.getElem?_eq_getElem hi⟩
      have hm : i0 ∈ Region.ready md ops listed := mem_ready.2 ⟨hpi, o, ho, fun e he hbd => by
        have h1 := (hat i0 o ho).1 e he hbd
        have h2 := hmin e.on h1
        rw [both _ _ inv.size (by omega)] at h2
        simpa using h2⟩
      rw [h0] at hm
      cases hm
    · have hin : i < n := Nat.lt_of_not_le fun h => absurd hi (tail_waits hs hc hn inv _ i0 rfl hi0 hpi i h)
      obtain ⟨hu, o, ho, hall⟩ := mem_ready.1 hi
      have his : i < ops.size := (Array.getElem?_eq_some_iff.1 ho).1
      have hanci : ∀ j ∈ anc i, listed.getD j false = true := by
        intro j hj
        obtain ⟨_, e, he, hbd, h⟩ := (hat i o ho).2 j hj
        have hl1 := hall e he hbd
        rcases h with h | h
        · rw [← h]; exact hl1
        · exact hcl _ hl1 j h
      have huf : listed.getD i false = false := by rw [← both _ _ inv.size his]; exact hu
      have hst := spec i o hin ho (fun j => listed.getD j false) u W hb hj huf hcl (fun j hj => ⟨hanci j hj, hr j (hanci j hj)⟩) (wpAny P md ops Q (fuel + (ops.size - n)) (listed.setIfInBounds i true)) ⟨fun v W' hstep hRJ => by
        obtain ⟨hRv, hJv⟩ := hRJ
        rw [hA u i v o ho]
        have hset : ((List.range n).countP fun i_ => !(listed.setIfInBounds i true).getD i_ true) + 1 = ((List.range n).countP fun i_ => !listed.getD i_ true) :=
          countP_one _ _ i (by rw [hu]; rfl) (by have hin : i < listed.size := by rw [inv.size]; omega
                                                 simp [hin]) (fun j hj => by rw [getD_set_ne true (Ne.symm hj)]) _ List.nodup_range (List.mem_range.2 hin)
        have hLe : (fun j => (listed.setIfInBounds i true).getD j false) = (fun j => if j = i then true else listed.getD j false) := by
          funext j
          by_cases e : i = j
          · subst e
            have hin2 : i < listed.size := by rw [inv.size]; omega
            simp [hin2]
          · rw [getD_set_ne false e, if_neg (Ne.symm e)]
        refine ih _ _ _ (inv.set hi hin) (by omega) ?_ (hB _ _ hstep hb) (by rw [hLe]; exact hJv) ?_ ?_
        · intro j hj k hk
          by_cases e : i = j
          · subst e; exact getD_set_true (hanci k hk)
          · rw [getD_set_ne false e] at hj; exact getD_set_true (hcl j hj k hk)
        · intro j hj
          by_cases e : i = j
          · subst e
            have hin : i < listed.size := by rw [inv.size]; omega
            simp [hin] at hj
          · rw [getD_set_ne false e] at hj
            unfold upd; rw [if_neg (Ne.symm e)]; exact hun j hj
        · intro j hj
          by_cases e : i = j
          · subst e
            have hm : (anc i).map (upd u i v) = (anc i).map u := List.map_congr_left (fun k hk => by
              have := ((hat i o ho).2 k hk).1
              unfold upd; rw [if_neg (by omega)])
            rw [hm, show upd u i v i = v by simp [upd]]
            exact hRv
          · rw [getD_set_ne false e] at hj
            have hm : (anc j).map (upd u i v) = (anc j).map u := List.map_congr_left (fun k hk => by
              have h1 := hcl j hj k hk
              have : k ≠ i := fun e => by rw [e, huf] at h1; cases h1
              unfold upd; rw [if_neg this])
            rw [hm, show upd u i v j = u j by unfold upd; rw [if_neg (Ne.symm e)]]
            exact hR _ _ _ _ _ hstep (hr j hj)⟩
      unfold wpOp
      rw [ho]
      dsimp only
      split
      · rename_i hw
        rw [if_pos hw] at hst
        exact .inl hst
      · rename_i hw
        rw [if_neg hw] at hst
        exact hst
theorem free_region_tailT {id : Nat} {Q : Exit → Act → World → Prop} {a : Act} {w : World} (n : Nat) (A : (Nat → Value) → Act) (u0 : Nat → Value) (anc : Nat → List Nat) (Step : World → World → Prop) (B : World → Prop) (R : Nat → List Value → Value → World → Prop) (J : (Nat → Bool) → (Nat → Value) → World → Prop)
    (hm : P.follows .mixedOrders = true) (hn : n < ops.size) (hs : Region.sinkB .any ops n = true) (hc : Region.chainB .any ops n = true) (hseq : Region.seqB .any ops (ops.size - n) n ((Array.range ops.size).map fun i => decide (i < n)) = true)
    (hanc : ancB .any ops anc = true) (ha : A u0 = a) (hA : ∀ u k v o, ops[k]? = some o → (A u).put o.dst v = A (upd u k v)) (hB0 : B w.drew) (hJ0 : J (fun _ => false) u0 w.drew) (hB : ∀ W W', Step W W' → B W → B W')
    (hR : ∀ k us v W W', Step W W' → R k us v W → R k us v W')
    (spec : ∀ k o, k < n → ops[k]? = some o → ∀ (L : Nat → Bool) u W, B W → J L u W → L k = false → (∀ j, L j = true → ∀ i ∈ anc j, L i = true) → (∀ j ∈ anc k, L j = true ∧ R j ((anc j).map u) (u j) W) → FreeStep P ops Q Step o (A u) W (fun v W' => R k ((anc k).map u) v W' ∧ J (fun j => if j = k then true else L j) (upd u k v) W'))
    (fin : ∀ (L : Nat → Bool) u W, B W → J L u W → (∀ k, k < n → L k = true) → (∀ k, k < n → R k ((anc k).map u) (u k) W) → wpList P ops Q (ops.toList.drop n) (A u) W) : (Code.region id ops true).wp P Q a w := by
  refine wp_region_any hm ?_
  rw [← ha]
  have hrep : ∀ j, (Array.replicate ops.size false).getD j false = false := fun j => getD_replicate_false _ _
  have h := free_headL hn hs hc hseq hanc hA hB hR spec fin (((List.range n).countP fun i_ => !(Array.replicate ops.size false).getD i_ true)) (Array.replicate ops.size false) u0 w.drew
    ⟨by simp, fun j oj _ hl => (by rw [hrep] at hl; cases hl), fun t _ ht => getD_in (by simpa using ht) (hrep _)⟩ rfl (fun j hj => by rw [hrep] at hj; cases hj) hB0 (by rw [show (fun j => (Array.replicate ops.size false).getD j false) = (fun _ => false) from funext hrep]; exact hJ0) (fun _ _ => rfl) (fun j hj => by rw [hrep] at hj; cases hj)
  have hl : ((List.range n).countP fun i_ => !(Array.replicate ops.size false).getD i_ true) = n := by
    rw [List.countP_eq_length.2 (fun i hi => by
      have hi' : i < n := List.mem_range.1 hi
      have : i < ops.size := by omega
      simp [this])]
    simp
  rw [hl, show n + (ops.size - n) = ops.size by omega] at h
  exact h
end
end Go.Proofs.YtigbmfogfgbmfaaDoorW.PrintWords
