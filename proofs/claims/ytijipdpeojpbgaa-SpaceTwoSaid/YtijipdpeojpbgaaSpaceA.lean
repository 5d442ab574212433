/- Rows of slots: what the printed functions of the layer come to. -/
import Derived.Test.YtijipdpeojpbgaaO
import Derived.Test.YtijipdpeojpbgaaHx0
import Derived.Test.YtijipdpeojpbgaaHx1
import Derived.Test.YtijipdpeojpbgaaHx2
import Derived.Test.YtijipdpeojpbgaaHx3
import Derived.Test.YtijipdpeojpbgaaHx4
namespace Go.Proofs.Ytijipdpeojpbgaa.SpaceA
open Go.RowKit Go.Proofs.Ytijipdpeojpbgaa.Fn Go.Proofs.YtijipdpeojpbgaaW.PrintWords Go.Proofs.YtijipdpeojpbgaaW.PrintLast
open Go.Proofs.YtijipdpeojpbgaaW.PrintWords.Kd (clr clr_length)

theorem w64 {x : Int} (h0 : -9223372036854775808 ≤ x) (h1 : x < 9223372036854775808) : wrap64 x = x := by unfold wrap64; omega
theorem rdOf_nat {l : List Bool} (j : Nat) : rdOf false l (j : Int) = l.getD j false := rfl
theorem clr_get {α : Type} (z : α) (m : Nat) : ∀ (l : List α) (lo j : Nat), (clr z l lo m)[j]? = if lo ≤ j ∧ j < lo + m ∧ j < l.length then some z else l[j]? := by
  induction m with
  | zero => intro l lo j; rw [if_neg (by omega)]; rfl
  | succ m ih =>
    intro l lo j
    simp only [clr]
    rw [ih, List.length_set, List.getElem?_set]
    by_cases h1 : lo = j
    · subst h1
      by_cases h2 : lo < l.length
      · rw [if_neg (by omega), if_pos rfl, if_pos h2, if_pos (by omega)]
      · rw [if_neg (by omega), if_pos rfl, if_neg h2, if_neg (by omega), List.getElem?_eq_none (by omega)]
    · by_cases h2 : lo + 1 ≤ j ∧ j < lo + 1 + m ∧ j < l.length
      · rw [if_pos h2, if_pos (by omega)]
      · rw [if_neg h2, if_neg h1, if_neg (by omega)]
theorem heads_ev : Ev (fun k => palimpsestlaw10_heads.f k) true := Ev.of palimpsestlaw10_heads.mono (k := 60) (by decide +kernel)
/-! Same -/
theorem same_l0 (l : List Bool) (hl : l.length ≤ 5000) (d : Nat) : ∀ i : Nat, i + d = l.length → Ev (fun k => palimpsestref10_Same.l0 k l l (i : Int)) true := by
  induction d with
  | zero =>
    intro i hi
    refine Ev.step (fun k => ?_) (Ev.now _)
    simp only [palimpsestref10_Same.l0]
    rw [if_neg (by omega)]
  | succ d ih =>
    intro i hi
    refine Ev.step (fun k => ?_) (ih (i + 1) (by omega))
    simp only [palimpsestref10_Same.l0]
    rw [if_pos (by omega), if_pos (by omega), if_pos (by omega), w64 (by omega) (by omega)]
    simp
theorem same_ev (l : List Bool) (hl : l.length ≤ 5000) : Ev (fun k => palimpsestref10_Same.f k l l) true := by
  refine Ev.congr (fun k => ?_) (same_l0 l hl l.length 0 (by omega))
  unfold palimpsestref10_Same.f
  rw [if_pos rfl]
  rfl
/-! Set -/
theorem set_eq (k : Nat) : ∀ (x0 : Int) (x6 : List Bool) (l : List Int) (i : Int), space_Set.l0 k x0 x6 l (l.length : Int) i = palimpsestref10_Set.l0 k x0 l x6 i := by
  induction k with
  | zero => intro x0 x6 l i; rfl
  | succ k ih =>
    intro x0 x6 l i
    simp only [space_Set.l0, palimpsestref10_Set.l0, ih]
    by_cases h : i < (l.length : Int)
    · simp only [if_pos h]
    · simp only [if_neg h]
theorem set_j0 (k : Nat) (a : Int) (l : List Int) (b : Bool) : space_Set.j0 k a l b = palimpsestref10_Set.j0 k a l b := by
  cases k with
  | zero => rfl
  | succ k => simp only [space_Set.j0, palimpsestref10_Set.j0, set_eq]
theorem set_f (k : Nat) (a : Int) (l : List Int) : space_Set.f k a l = palimpsestref10_Set.f k a l := by
  unfold space_Set.f palimpsestref10_Set.f
  simp only [set_j0]
theorem set_l0 (l : List Int) (n : Nat) (hn : n ≤ 4096) (hl : l.length ≤ 5000) (d : Nat) : ∀ (i : Nat) (x6 : List Bool), x6.length = n → i + d = l.length → ∃ r : List Bool × Int, r.1.length ≤ 5000 ∧ Ev (fun k => space_Set.l0 k (n : Int) x6 l (l.length : Int) (i : Int)) r := by
  induction d with
  | zero =>
    intro i x6 h6 hi
    refine ⟨(x6, 0), by simp; omega, Ev.step (fun k => ?_) (Ev.now _)⟩
    simp only [space_Set.l0]
    rw [if_neg (by omega)]
  | succ d ih =>
    intro i x6 h6 hi
    by_cases h1 : rd l (i : Int) < 0
    · refine ⟨([], 2), by simp, Ev.step (fun k => ?_) (Ev.now _)⟩
      simp only [space_Set.l0]
      rw [if_pos (by omega), if_pos (by omega), if_pos (by omega), if_pos h1]
    by_cases h2 : rd l (i : Int) ≥ (n : Int)
    · refine ⟨([], 2), by simp, Ev.step (fun k => ?_) (Ev.now _)⟩
      simp only [space_Set.l0]
      rw [if_pos (by omega), if_pos (by omega), if_pos (by omega), if_neg h1, if_pos h2]
    by_cases h3 : rdOf false x6 (rd l (i : Int)) = true
    · refine ⟨([], 2), by simp, Ev.step (fun k => ?_) (Ev.now _)⟩
      simp only [space_Set.l0]
      rw [if_pos (by omega), if_pos (by omega), if_pos (by omega), if_neg h1, if_neg h2, if_pos (by omega), if_pos (by omega), if_pos h3]
    obtain ⟨r, hr, h⟩ := ih (i + 1) (x6.set (rd l (i : Int)).toNat true) (by simp [h6]) (by omega)
    refine ⟨r, hr, Ev.step (fun k => ?_) h⟩
    simp only [space_Set.l0]
    rw [if_pos (by omega), if_pos (by omega), if_pos (by omega), if_neg h1, if_neg h2, if_pos (by omega), if_pos (by omega), if_neg h3, w64 (by omega) (by omega)]
    rfl
theorem set_ev (a : Int) (l : List Int) (hl : l.length ≤ 5000) : ∃ r : List Bool × Int, r.1.length ≤ 5000 ∧ Ev (fun k => space_Set.f k a l) r := by
  by_cases h1 : a < 0
  · refine ⟨([], 2), by simp, Ev.congr (f := fun k => space_Set.j0 k a l true) (fun k => ?_) (Ev.step (fun k => ?_) (Ev.now _))⟩
    · unfold space_Set.f; rw [if_pos h1]
    · simp only [space_Set.j0]; rfl
  by_cases h2 : a > 4096
  · refine ⟨([], 2), by simp, Ev.congr (f := fun k => space_Set.j0 k a l true) (fun k => ?_) (Ev.step (fun k => ?_) (Ev.now _))⟩
    · unfold space_Set.f; rw [if_neg h1, decide_eq_true h2]
    · simp only [space_Set.j0]; rfl
  obtain ⟨n, rfl⟩ := Int.eq_ofNat_of_zero_le (by omega : 0 ≤ a)
  obtain ⟨r, hr, h⟩ := set_l0 l n (by omega) hl l.length 0 (List.replicate n false) (by simp) (by omega)
  refine ⟨r, hr, Ev.congr (f := fun k => space_Set.j0 k (n : Int) l false) (fun k => ?_) (Ev.step (fun k => ?_) h)⟩
  · unfold space_Set.f; rw [if_neg h1, decide_eq_false h2]
  · simp only [space_Set.j0]
    rw [if_neg (by decide), if_pos (by omega), if_pos (by omega)]
    rfl
/-! Take -/
theorem take_l2 (a : Nat) (d : Nat) : ∀ (l : List Bool) (n i : Nat), a + n ≤ l.length → l.length ≤ 5000 → i + d = n → Ev (fun k => space_Take.l2 k (a : Int) l (n : Int) (i : Int)) ((a : Int), clr true l (a + i) d, 0) := by
  induction d with
  | zero =>
    intro l n i _ _ hi
    refine Ev.step (fun k => ?_) (Ev.now _)
    simp only [space_Take.l2]
    rw [if_neg (by omega)]
    rfl
  | succ d ih =>
    intro l n i h1 h2 hi
    have h := ih (l.set (a + i) true) n (i + 1) (by simpa using h1) (by simpa using h2) (by omega)
    have e1 : wrap64 ((a : Int) + (i : Int)) = ((a + i : Nat) : Int) := by rw [w64 (by omega) (by omega)]; omega
    have e2 : wrap64 ((i : Int) + 1) = ((i + 1 : Nat) : Int) := by rw [w64 (by omega) (by omega)]; omega
    have c1 : (i : Int) < (n : Int) := by omega
    have c2 : (0 : Int) ≤ ((a + i : Nat) : Int) := by omega
    have c3 : ((a + i : Nat) : Int) < (l.length : Int) := by omega
    refine Ev.step (fun k => ?_) h
    simp only [space_Take.l2]
    rw [if_pos c1, e1, if_pos c2, if_pos c3, e2, Int.toNat_natCast]
/-- What Take finds. -/
def Found (l : List Bool) (n : Int) (r : Int × List Bool × Int) : Prop :=
  r.2.1.length = l.length ∧ (¬ r.2.2 = 0 ∨ ∃ a m : Nat, n = (m : Int) ∧ 1 ≤ m ∧ a + m ≤ l.length ∧ (∀ j, a ≤ j → j < a + m → l[j]? = some false) ∧ r = ((a : Int), clr true l a m, 0))
theorem take_l0 (l : List Bool) (hl : l.length ≤ 4096) (n : Nat) (hn : 1 ≤ n) (hn2 : n < 9223372036854775808) (d : Nat) :
    ∀ a : Nat, a + d = l.length + 1 → ∃ r, Found l n r ∧ Ev (fun k => space_Take.l0 k l (n : Int) (a : Int)) r := by
  have e0 : wrap64 ((l.length : Int) - (n : Int)) = (l.length : Int) - (n : Int) := w64 (by omega) (by omega)
  induction d with
  | zero =>
    intro a ha
    refine ⟨(0, l, 100), ⟨rfl, .inl (by show ¬ (100 : Int) = 0; decide)⟩, Ev.step (fun k => ?_) (Ev.now _)⟩
    have c : ¬ (a : Int) ≤ (l.length : Int) - (n : Int) := by omega
    simp only [space_Take.l0]
    rw [e0, if_neg c]
  | succ d ih =>
    intro a ha
    by_cases hin : a + n ≤ l.length
    · have c : (a : Int) ≤ (l.length : Int) - (n : Int) := by omega
      have inner : ∀ (t i : Nat), i + t = n → (∀ j, a ≤ j → j < a + i → l[j]? = some false) → ∃ r, Found l n r ∧ Ev (fun k => space_Take.l1 k l (n : Int) (a : Int) (n : Int) (i : Int)) r := by
        intro t
        induction t with
        | zero =>
          intro i hi hall
          have hi2 : i = n := by omega
          subst hi2
          refine ⟨((a : Int), clr true l a i, 0), ⟨clr_length _ _ _ _, .inr ⟨a, i, rfl, hn, hin, hall, rfl⟩⟩, Ev.step (fun k => ?_) (take_l2 a i l i 0 hin (by omega) (by omega))⟩
          simp only [space_Take.l1]
          rw [if_neg (by omega)]
          unfold slices_Clone_bool_bool.f
          rw [if_pos (by omega)]
          rfl
        | succ t iht =>
          intro i hi hall
          have hj : a + i < l.length := by omega
          have c1 : (i : Int) < (n : Int) := by omega
          have c2 : (0 : Int) ≤ ((a + i : Nat) : Int) := by omega
          have c3 : ((a + i : Nat) : Int) < (l.length : Int) := by omega
          have e1 : wrap64 ((a : Int) + (i : Int)) = ((a + i : Nat) : Int) := by rw [w64 (by omega) (by omega)]; omega
          have e2 : wrap64 ((i : Int) + 1) = ((i + 1 : Nat) : Int) := by clear e1; rw [w64 (by omega) (by omega)]; omega
          have e3 : wrap64 ((a : Int) + 1) = ((a + 1 : Nat) : Int) := by clear e1 e2; rw [w64 (by omega) (by omega)]; omega
          have er : rdOf false l ((a + i : Nat) : Int) = l[a + i] := by rw [rdOf_nat, List.getD_eq_getElem?_getD, List.getElem?_eq_getElem hj]; rfl
          by_cases hb : l[a + i] = true
          · obtain ⟨r, hr, h⟩ := ih (a + 1) (by clear e0 e1 e2 e3; omega)
            refine ⟨r, hr, Ev.step (fun k => ?_) h⟩
            simp only [space_Take.l1]
            rw [if_pos c1, e1, if_pos c2, if_pos c3, er, if_pos hb, e3]
          · have hall2 : ∀ j, a ≤ j → j < a + (i + 1) → l[j]? = some false := by
              intro j h1 h2
              by_cases hji : j < a + i
              · exact hall j h1 hji
              · have : j = a + i := by clear e0 e1 e2 e3; omega
                subst this
                rw [List.getElem?_eq_getElem hj]
                simpa using hb
            obtain ⟨r, hr, h⟩ := iht (i + 1) (by clear e0 e1 e2 e3; omega) hall2
            refine ⟨r, hr, Ev.step (fun k => ?_) h⟩
            simp only [space_Take.l1]
            rw [if_pos c1, e1, if_pos c2, if_pos c3, er, if_neg hb, e2]
      obtain ⟨r, hr, h⟩ := inner n 0 (by omega) (fun j h1 h2 => absurd h2 (by omega))
      refine ⟨r, hr, Ev.step (fun k => ?_) h⟩
      simp only [space_Take.l0]
      rw [e0, if_pos c]
      rfl
    · refine ⟨(0, l, 100), ⟨rfl, .inl (by show ¬ (100 : Int) = 0; decide)⟩, Ev.step (fun k => ?_) (Ev.now _)⟩
      have c : ¬ (a : Int) ≤ (l.length : Int) - (n : Int) := by omega
      simp only [space_Take.l0]
      rw [e0, if_neg c]
theorem take_ev (l : List Bool) (hl : l.length ≤ 4096) (n : Int) (hn : n < 9223372036854775808) : ∃ r, Found l n r ∧ Ev (fun k => space_Take.f k l n) r := by
  by_cases h1 : n < 1
  · refine ⟨(0, l, 2), ⟨rfl, .inl (by show ¬ (2 : Int) = 0; decide)⟩, Ev.congr (f := fun k => space_Take.j0 k l n true) (fun k => ?_) (Ev.step (fun k => ?_) (Ev.now _))⟩
    · unfold space_Take.f; rw [if_neg (by omega), decide_eq_true h1]
    · simp only [space_Take.j0]; rfl
  · obtain ⟨m, rfl⟩ := Int.eq_ofNat_of_zero_le (by omega : 0 ≤ n)
    obtain ⟨r, hr, h⟩ := take_l0 l hl m (by omega) (by omega) (l.length + 1) 0 (by omega)
    refine ⟨r, hr, Ev.congr (f := fun k => space_Take.j0 k l (m : Int) false) (fun k => ?_) (Ev.step (fun k => ?_) h)⟩
    · unfold space_Take.f; rw [if_neg (by omega), decide_eq_false h1]
    · simp only [space_Take.j0]; rfl
/-! Give -/
theorem index_l0 (l : List Bool) (hl : l.length ≤ 5000) (hall : ∀ j, j < l.length → l[j]? = some true) (d : Nat) : ∀ i : Nat, i + d = l.length → Ev (fun k => slices_Index_bool_bool.l0 k l false (l.length : Int) (i : Int)) (-1) := by
  induction d with
  | zero =>
    intro i hi
    refine Ev.step (fun k => ?_) (Ev.now _)
    simp only [slices_Index_bool_bool.l0]
    rw [if_neg (by omega)]
  | succ d ih =>
    intro i hi
    have hb : rdOf false l (i : Int) = true := by rw [rdOf_nat, List.getD_eq_getElem?_getD, hall i (by omega)]; rfl
    refine Ev.step (fun k => ?_) (ih (i + 1) (by omega))
    simp only [slices_Index_bool_bool.l0]
    rw [if_pos (by omega), if_pos (by omega), if_pos (by omega), hb, if_neg (by decide), w64 (by omega) (by omega)]
    rfl
theorem give_ev (l : List Bool) (hl : l.length ≤ 4096) (a n : Nat) (hn : 1 ≤ n) (ha : a + n ≤ l.length) (hall : ∀ j, a ≤ j → j < a + n → l[j]? = some true) :
    Ev (fun k => space_Give.f k l (a : Int) (n : Int)) (clr false l a n, 0) := by
  have hseg : ((l.take (a + n)).drop a).length = n := by simp; omega
  have hx := index_l0 ((l.take (a + n)).drop a) (by omega) (fun j hj => by
    rw [List.getElem?_drop, List.getElem?_take, if_pos (by omega)]
    exact hall _ (by omega) (by omega)) n 0 (by omega)
  have hc : Ev (fun k => slices_Contains_bool_bool.f k ((l.take (a + n)).drop a) false) false := by
    refine Ev.congr (fun k => ?_) (Ev.bind (g := fun k => slices_Index_bool_bool.f k ((l.take (a + n)).drop a) false) (f := fun _ t => some (decide (t ≥ 0))) (a := -1) (r := false) (Ev.congr (fun k => ?_) hx) (Ev.now _))
    · rfl
    · unfold slices_Index_bool_bool.f; rfl
  have c1 : ¬ (l.length : Int) > 4096 := by omega
  have c2 : ¬ (n : Int) < 1 := by omega
  have c3 : ¬ (a : Int) < 0 := by omega
  have c4 : ¬ (a : Int) ≥ (l.length : Int) := by omega
  have c5 : ¬ (n : Int) > (l.length : Int) - (a : Int) := by omega
  have c6 : (0 : Int) ≤ (a : Int) := by omega
  have c7 : (a : Int) ≤ ((a + n : Nat) : Int) := by omega
  have c8 : ((a + n : Nat) : Int) ≤ (l.length : Int) := by omega
  have c9 : l.length < 140737488355328 := by omega
  have e1 : wrap64 ((l.length : Int) - (a : Int)) = (l.length : Int) - (a : Int) := w64 (by omega) (by omega)
  have e2 : wrap64 ((a : Int) + (n : Int)) = ((a + n : Nat) : Int) := by clear e1; rw [w64 (by omega) (by omega)]; omega
  refine Ev.congr (fun k => ?_) (Ev.bind hc (f := fun k t => if t = true then (some (l, 2)) else some (clr false l a n, 0)) (Ev.congr (f := fun _ => some (clr false l a n, (0 : Int))) (fun k => by rw [if_neg (by decide)]) (Ev.now _)))
  unfold space_Give.f slices_Clone_bool_bool.f
  rw [if_neg c1, if_neg c2, if_neg c3, if_neg c4, e1, if_neg c5, if_pos c6, e2, if_pos c7, if_pos c8, Int.toNat_natCast, Int.toNat_natCast, if_pos c9]
  simp only [Option.bind_some]
  rw [if_pos c8, hseg]
/-! Free -/
def holes : List Bool → Nat
  | [] => 0
  | b :: l => (if b then 0 else 1) + holes l
theorem holes_append (a b : List Bool) : holes (a ++ b) = holes a + holes b := by
  induction a with
  | nil => simp [holes]
  | cons x a ih => simp only [List.cons_append, holes, ih]; omega
theorem holes_le (l : List Bool) : holes l ≤ l.length := by
  induction l with
  | nil => simp [holes]
  | cons x l ih => simp only [holes, List.length_cons]; split <;> omega
theorem holes_set (l : List Bool) : ∀ j : Nat, l[j]? = some false → holes (l.set j true) + 1 = holes l := by
  induction l with
  | nil => intro j h; simp at h
  | cons x l ih =>
    intro j h
    cases j with
    | zero =>
      have : x = false := by simpa using h
      subst this
      simp [holes]; omega
    | succ j =>
      have := ih j (by simpa using h)
      simp only [List.set_cons_succ, holes]
      omega
theorem holes_clr (m : Nat) : ∀ (l : List Bool) (lo : Nat), (∀ j, lo ≤ j → j < lo + m → l[j]? = some false) → holes (clr true l lo m) + m = holes l := by
  induction m with
  | zero => intro l lo _; rfl
  | succ m ih =>
    intro l lo h
    have h0 := h lo (by omega) (by omega)
    have h1 := ih (l.set lo true) (lo + 1) (fun j a b => by
      rw [List.getElem?_set, if_neg (by omega)]
      exact h j (by omega) (by omega))
    have h2 := holes_set l lo h0
    simp only [clr]
    omega
def tot : List Nat → Nat
  | [] => 0
  | x :: l => x + tot l
theorem tot_append (a b : List Nat) : tot (a ++ b) = tot a + tot b := by
  induction a with
  | nil => simp [tot]
  | cons x a ih => simp only [List.cons_append, tot, ih]; omega
def nats (l : List Nat) : List Int := l.map Int.ofNat
theorem runs_l0 (ys : List Bool) : ∀ (xs : List Bool) (acc : List Nat) (last : Nat), (xs ++ ys).length ≤ 4096 → (acc ++ [last]).length ≤ xs.length + 1 → tot (acc ++ [last]) = holes xs →
    ∃ r : List Nat, tot r = holes (xs ++ ys) ∧ r.length ≤ 4097 ∧ Ev (fun k => space_runs.l0 k (nats (acc ++ [last])) (xs ++ ys) ((xs ++ ys).length : Int) (xs.length : Int)) (nats r) := by
  induction ys with
  | nil =>
    intro xs acc last hl ha ht
    refine ⟨acc ++ [last], by simpa using ht, by simp at hl ha ⊢; omega, Ev.step (fun k => ?_) (Ev.now _)⟩
    simp only [space_runs.l0]
    rw [if_neg (by simp)]
  | cons y ys ih =>
    intro xs acc last hl ha ht
    have hll : xs.length < (xs ++ y :: ys).length := by simp
    have hr : rdOf false (xs ++ y :: ys) (xs.length : Int) = y := by rw [rdOf_nat]; simp
    have hal : (nats (acc ++ [last])).length = acc.length + 1 := by simp [nats]
    have ha' : acc.length + 1 ≤ xs.length + 1 := by simpa using ha
    have hbound : (xs ++ y :: ys).length ≤ 4096 := hl
    have hlast : last ≤ 4096 := by
      have h1 := holes_le xs
      have h2 : tot (acc ++ [last]) = tot acc + last := by rw [tot_append]; simp [tot]
      omega
    have e1 : wrap64 ((xs.length : Int) + 1) = ((xs.length + 1 : Nat) : Int) := by rw [w64 (by omega) (by omega)]; omega
    have e2 : wrap64 ((((nats (acc ++ [last])).length : Nat) : Int) - 1) = (acc.length : Int) := by clear e1; rw [hal, w64 (by omega) (by omega)]; omega
    have c1 : (xs.length : Int) < ((xs ++ y :: ys).length : Int) := by clear e1 e2; omega
    have hx1 : (xs ++ [y]).length = xs.length + 1 := by simp
    cases y with
    | true =>
      obtain ⟨r, h1, h2, h3⟩ := ih (xs ++ [true]) (acc ++ [last]) 0 (by simpa using hl) (by simp at ha ⊢; clear e1 e2; omega) (by rw [tot_append, ht, holes_append]; simp [tot, holes])
      rw [List.append_assoc, hx1] at h3
      rw [List.append_assoc] at h1
      refine ⟨r, h1, h2, Ev.step (fun k => ?_) h3⟩
      simp only [space_runs.l0]
      rw [if_pos c1, if_pos (Int.natCast_nonneg _), if_pos c1, hr, if_pos rfl, if_pos (by clear e1 e2; omega), e1]
      simp [nats]
    | false =>
      obtain ⟨r, h1, h2, h3⟩ := ih (xs ++ [false]) acc (last + 1) (by simpa using hl) (by simp at ha ⊢; clear e1 e2; omega) (by rw [tot_append, holes_append, ← ht, tot_append]; simp [tot, holes]; clear e1 e2; omega)
      rw [List.append_assoc, hx1] at h3
      rw [List.append_assoc] at h1
      have hrd : rd (nats (acc ++ [last])) (acc.length : Int) = (last : Int) := by simp [rd, nats]
      have e3 : wrap64 ((last : Int) + 1) = ((last + 1 : Nat) : Int) := by clear e1 e2; rw [w64 (by omega) (by omega)]; omega
      have hset : (nats (acc ++ [last])).set acc.length ((last + 1 : Nat) : Int) = nats (acc ++ [last + 1]) := by simp [nats]
      refine ⟨r, h1, h2, Ev.step (fun k => ?_) h3⟩
      simp only [space_runs.l0]
      rw [if_pos c1, if_pos (Int.natCast_nonneg _), if_pos c1, hr, if_neg (by decide), e2, if_pos (Int.natCast_nonneg _), if_pos (by clear e1 e2 e3; omega), hrd, e3, Int.toNat_natCast, hset, e1]
      rfl
theorem free_l0 (ys : List Nat) : ∀ (xs : List Nat) (s : Nat), (xs ++ ys).length ≤ 5000 → s + tot ys ≤ 5000 → Ev (fun k => space_Free.l0 k (s : Int) (nats (xs ++ ys)) ((xs ++ ys).length : Int) (xs.length : Int)) ((s + tot ys : Nat) : Int) := by
  induction ys with
  | nil =>
    intro xs s _ _
    refine Ev.step (fun k => ?_) (Ev.now _)
    simp only [space_Free.l0]
    rw [if_neg (by simp)]
    rfl
  | cons y ys ih =>
    intro xs s hl hs
    simp only [tot] at hs
    have h := ih (xs ++ [y]) (s + y) (by simpa using hl) (by omega)
    have hx1 : (xs ++ [y]).length = xs.length + 1 := by simp
    rw [List.append_assoc, hx1] at h
    have hr : rd (nats (xs ++ y :: ys)) (xs.length : Int) = (y : Int) := by simp [rd, nats]
    have hll : xs.length < (xs ++ y :: ys).length := by simp
    have hnl : (nats (xs ++ y :: ys)).length = (xs ++ y :: ys).length := by simp [nats]
    have c1 : (xs.length : Int) < ((xs ++ y :: ys).length : Int) := by omega
    have e1 : wrap64 ((xs.length : Int) + 1) = ((xs.length + 1 : Nat) : Int) := by rw [w64 (by omega) (by omega)]; omega
    have e2 : wrap64 ((s : Int) + (y : Int)) = ((s + y : Nat) : Int) := by clear e1; rw [w64 (by omega) (by omega)]; omega
    have e3 : s + tot (y :: ys) = s + y + tot ys := by clear e1 e2; simp only [tot]; omega
    rw [e3]
    refine Ev.step (fun k => ?_) h
    simp only [space_Free.l0]
    rw [if_pos c1, if_pos (Int.natCast_nonneg _), hnl, if_pos c1, hr, e2, e1]
    rfl
theorem free_ev (l : List Bool) (hl : l.length ≤ 4096) : Ev (fun k => space_Free.f k l) ((holes l : Nat) : Int) := by
  obtain ⟨r, h1, h2, h3⟩ := runs_l0 l [] [] 0 (by simpa using hl) (by simp) rfl
  have h4 := free_l0 r [] 0 (by simp; omega) (by have := holes_le l; rw [h1]; simp; omega)
  have hn : ((nats r).length : Int) = (r.length : Int) := by simp [nats]
  rw [Nat.zero_add, h1] at h4
  refine Ev.congr (fun k => ?_) (Ev.bind h3 (f := fun k t => space_Free.l0 k 0 t (t.length : Int) 0) (Ev.congr (fun k => by rw [hn]; rfl) h4))
  unfold space_Free.f space_runs.f
  rw [if_neg (by omega)]
  rfl
end Go.Proofs.Ytijipdpeojpbgaa.SpaceA
