import Derived.Test.YtigbmfogfgbmfaaDoorLsA
import Derived.Lib.SlMapMerge
import Derived.Lib.SlMapFilter
import Derived.Test.YtigbmfogfgbmfaaDoorHx0
import Derived.Test.YtigbmfogfgbmfaaDoorHx3
import Derived.Test.YtigbmfogfgbmfaaDoorHx4
import Derived.Test.YtigbmfogfgbmfaaDoorHx5
import Derived.Test.YtigbmfogfgbmfaaDoorHx9
namespace Go.Proofs.YtigbmfogfgbmfaaDoor.Pure
open Go.RowKit Go.Proofs.YtigbmfogfgbmfaaDoor.Fn Go.Proofs.YtigbmfogfgbmfaaDoorW.PrintWords Go.Proofs.YtigbmfogfgbmfaaDoorW.PrintLast Go.Proofs.YtigbmfogfgbmfaaDoor.U
set_option linter.unusedVariables false
set_option linter.unusedSimpArgs false
def numL : List ByteArray → List Int → List UInt8 → Option Int
  | s :: ss, v :: vs, x => if toL s = x then some v else numL ss vs x
  | _, _, _ => none
def numV (l : List ByteArray) (n : List Int) (x : List UInt8) : Int := (numL l n x).getD (-1)
theorem numL_nil_r (l : List ByteArray) (x : List UInt8) : numL l [] x = none := by cases l <;> rfl
theorem numV_cons (s : ByteArray) (ss : List ByteArray) (v : Int) (vs : List Int) (x : List UInt8) : numV (s :: ss) (v :: vs) x = if toL s = x then v else numV ss vs x := by
  unfold numV; rw [show numL (s :: ss) (v :: vs) x = if toL s = x then some v else numL ss vs x from rfl]
  split <;> rfl
theorem number_step (l : List ByteArray) (n : List Int) (s : ByteArray) (hl : l.length < 4611686018427387904) (d : Nat) : ∀ i : Nat, i + d = l.length → Ev (fun k => q21_number.l0 k l n s (i : Int)) (numV (l.drop i) (n.drop i) (toL s)) := by
  have hno : ∀ i : Nat, Ev (fun k => q21_number.j1 k l n s (i : Int) false) (-1) := fun i => Ev.step (f := fun _ => some (-1)) (fun k => by simp only [q21_number.j1]; rw [if_neg (by decide)]) (Ev.now _)
  induction d with
  | zero =>
    intro i hi
    rw [List.drop_eq_nil_of_le (by omega)]
    exact Ev.step (fun k => by simp only [q21_number.l0]; rw [if_neg (by omega)]) (hno i)
  | succ d ih =>
    intro i hi
    have hw : wrap64 ((i : Int) + 1) = ((i + 1 : Nat) : Int) := by rw [w64 (by omega) (by omega)]; omega
    by_cases hn : i < n.length
    case neg =>
      rw [List.drop_eq_nil_of_le (show n.length ≤ i by omega), show numV (l.drop i) [] (toL s) = -1 by unfold numV; rw [numL_nil_r]; rfl]
      exact Ev.step (fun k => by simp only [q21_number.l0]; rw [if_pos (by omega), decide_eq_false (by omega)]) (hno i)
    refine Ev.step (fun k => by simp only [q21_number.l0]; rw [if_pos (by omega), decide_eq_true (by omega)]) ?_
    rw [List.drop_eq_getElem_cons (show i < l.length by omega), List.drop_eq_getElem_cons hn, numV_cons]
    have e1 : rdOf ByteArray.empty l (i : Int) = l[i] := rdOf_at _ l i (by omega)
    have e2 : rd n (i : Int) = n[i] := Go.Proofs.YtigbmfogfgbmfaaDoorW.PrintWords.rd_at n i hn
    refine Ev.step (f := fun k => if toL l[i] = toL s then some n[i] else q21_number.l0 k l n s ((i + 1 : Nat) : Int)) (fun k => ?_) ?_
    · simp only [q21_number.j1]
      rw [if_pos (by trivial), if_pos (by omega), if_pos (by omega), e1, e2, if_pos (show (i : Int) < (n.length : Int) by omega), hw, Lib.toList_data, Lib.toList_data]
    · by_cases c : toL l[i] = toL s
      · simp only [if_pos c]; exact Ev.now _
      · simp only [if_neg c]; exact ih (i + 1) (by omega)
theorem number_ev (l : List ByteArray) (n : List Int) (s : ByteArray) (hl : l.length < 4611686018427387904) : Ev (fun k => q21_number.f k l n s) (numV l n (toL s)) := number_step l n s hl l.length 0 (by omega)
theorem lawnumber_step (l : List ByteArray) (n : List Int) (s : ByteArray) (hl : l.length < 4611686018427387904) (d : Nat) : ∀ i : Nat, i + d = l.length → Ev (fun k => l21_number.l0 k l n s (i : Int)) (numV (l.drop i) (n.drop i) (toL s)) := by
  have hno : ∀ i : Nat, Ev (fun k => l21_number.j1 k l n s (i : Int) false) (-1) := fun i => Ev.step (f := fun _ => some (-1)) (fun k => by simp only [l21_number.j1]; rw [if_neg (by decide)]) (Ev.now _)
  induction d with
  | zero =>
    intro i hi
    rw [List.drop_eq_nil_of_le (by omega)]
    exact Ev.step (fun k => by simp only [l21_number.l0]; rw [if_neg (by omega)]) (hno i)
  | succ d ih =>
    intro i hi
    have hw : wrap64 ((i : Int) + 1) = ((i + 1 : Nat) : Int) := by rw [w64 (by omega) (by omega)]; omega
    by_cases hn : i < n.length
    case neg =>
      rw [List.drop_eq_nil_of_le (show n.length ≤ i by omega), show numV (l.drop i) [] (toL s) = -1 by unfold numV; rw [numL_nil_r]; rfl]
      exact Ev.step (fun k => by simp only [l21_number.l0]; rw [if_pos (by omega), decide_eq_false (by omega)]) (hno i)
    refine Ev.step (fun k => by simp only [l21_number.l0]; rw [if_pos (by omega), decide_eq_true (by omega)]) ?_
    rw [List.drop_eq_getElem_cons (show i < l.length by omega), List.drop_eq_getElem_cons hn, numV_cons]
    have e1 : rdOf ByteArray.empty l (i : Int) = l[i] := rdOf_at _ l i (by omega)
    have e2 : rd n (i : Int) = n[i] := Go.Proofs.YtigbmfogfgbmfaaDoorW.PrintWords.rd_at n i hn
    refine Ev.step (f := fun k => if toL l[i] = toL s then some n[i] else l21_number.l0 k l n s ((i + 1 : Nat) : Int)) (fun k => ?_) ?_
    · simp only [l21_number.j1]
      rw [if_pos (by trivial), if_pos (by omega), if_pos (by omega), e1, e2, if_pos (show (i : Int) < (n.length : Int) by omega), hw, Lib.toList_data, Lib.toList_data]
    · by_cases c : toL l[i] = toL s
      · simp only [if_pos c]; exact Ev.now _
      · simp only [if_neg c]; exact ih (i + 1) (by omega)
theorem lawnumber_ev (l : List ByteArray) (n : List Int) (s : ByteArray) (hl : l.length < 4611686018427387904) : Ev (fun k => l21_number.f k l n s) (numV l n (toL s)) := lawnumber_step l n s hl l.length 0 (by omega)
theorem numL_mem {l : List ByteArray} {n : List Int} {x : List UInt8} {v : Int} (h : numL l n x = some v) : x ∈ l.map toL ∧ v ∈ n := by
  induction l generalizing n with
  | nil => cases h
  | cons s ss ih =>
    cases n with
    | nil => cases h
    | cons w vs =>
      rw [show numL (s :: ss) (w :: vs) x = if toL s = x then some w else numL ss vs x from rfl] at h
      by_cases c : toL s = x
      · rw [if_pos c] at h; cases h; simp [c]
      · rw [if_neg c] at h; have := ih h; simp [this.1, this.2]
theorem numV_mem {l : List ByteArray} {n : List Int} {x : List UInt8} (h : 0 ≤ numV l n x) : x ∈ l.map toL ∧ numV l n x ∈ n := by
  unfold numV at h ⊢
  cases hc : numL l n x with
  | none => rw [hc] at h; exact absurd h (by decide)
  | some v => exact numL_mem hc
def mg : Nat → List ByteArray → List ByteArray → List ByteArray
  | 0, _, _ => []
  | _ + 1, [], [] => []
  | d + 1, x :: a, [] => x :: mg d a []
  | d + 1, [], y :: b => y :: mg d [] b
  | d + 1, x :: a, y :: b => if Op.bytesLess (toL x) (toL y) = true then x :: mg d a (y :: b) else if Op.bytesLess (toL y) (toL x) = true then y :: mg d (x :: a) b else x :: mg d a b
def allN (a b : List ByteArray) : List ByteArray := mg (a.length + b.length) a b
theorem mg_mem (d : Nat) : ∀ (a b : List ByteArray), a.length + b.length ≤ d → ∀ z, z ∈ mg d a b ↔ z ∈ a ∨ z ∈ b := by
  induction d with
  | zero =>
    intro a b h z
    obtain rfl : a = [] := List.eq_nil_of_length_eq_zero (by omega)
    obtain rfl : b = [] := List.eq_nil_of_length_eq_zero (by omega)
    simp [mg]
  | succ d ih =>
    intro a b h z
    cases a with
    | nil =>
      cases b with
      | nil => simp [mg]
      | cons y b => simp only [List.length_cons, List.length_nil] at h; simp [mg, ih [] b (by simp; omega)]
    | cons x a =>
      cases b with
      | nil => simp only [List.length_cons, List.length_nil] at h; simp [mg, ih a [] (by simp; omega)]
      | cons y b =>
        simp only [List.length_cons] at h
        unfold mg
        by_cases c1 : Op.bytesLess (toL x) (toL y) = true
        · rw [if_pos c1, List.mem_cons, ih a (y :: b) (by simp; omega)]; simp [or_assoc]
        rw [if_neg c1]
        by_cases c2 : Op.bytesLess (toL y) (toL x) = true
        · rw [if_pos c2, List.mem_cons, ih (x :: a) b (by simp; omega)]
          simp only [List.mem_cons]
          constructor
          · rintro (h | (h | h) | h)
            · exact .inr (.inl h)
            · exact .inl (.inl h)
            · exact .inl (.inr h)
            · exact .inr (.inr h)
          · rintro ((h | h) | (h | h))
            · exact .inr (.inl (.inl h))
            · exact .inr (.inl (.inr h))
            · exact .inl h
            · exact .inr (.inr h)
        rw [if_neg c2]
        obtain rfl : x = y := by
          rcases bytesLess_tri (toL x) (toL y) with h | h | h
          · exact absurd h c1
          · exact toL_inj h
          · exact absurd h c2
        rw [List.mem_cons, ih a b (by omega)]
        simp only [List.mem_cons]
        constructor
        · rintro (h | h | h)
          · exact .inl (.inl h)
          · exact .inl (.inr h)
          · exact .inr (.inr h)
        · rintro ((h | h) | (h | h))
          · exact .inl h
          · exact .inr (.inl h)
          · exact .inl h
          · exact .inr (.inr h)
abbrev Rises (l : List ByteArray) : Prop := l.Pairwise (fun a b => Lt (toL a) (toL b))
theorem mg_rises (d : Nat) : ∀ (a b : List ByteArray), a.length + b.length ≤ d → Rises a → Rises b → Rises (mg d a b) := by
  induction d with
  | zero => intro a b _ _ _; exact List.Pairwise.nil
  | succ d ih =>
    intro a b h ha hb
    cases a with
    | nil =>
      cases b with
      | nil => exact List.Pairwise.nil
      | cons y b =>
        simp only [List.length_cons, List.length_nil] at h
        have hb' := List.pairwise_cons.1 hb
        exact List.pairwise_cons.2 ⟨fun z hz => by
          rcases (mg_mem d [] b (by simp; omega) z).1 hz with h | h
          · cases h
          · exact hb'.1 z h, ih [] b (by simp; omega) ha hb'.2⟩
    | cons x a =>
      have ha' := List.pairwise_cons.1 ha
      cases b with
      | nil =>
        simp only [List.length_cons, List.length_nil] at h
        refine List.pairwise_cons.2 ⟨fun z hz => ?_, ih a [] (by simp; omega) ha'.2 hb⟩
        rcases (mg_mem d a [] (by simp; omega) z).1 hz with h | h
        · exact ha'.1 z h
        · cases h
      | cons y b =>
        have hb' := List.pairwise_cons.1 hb
        simp only [List.length_cons] at h
        unfold mg
        by_cases c1 : Op.bytesLess (toL x) (toL y) = true
        · rw [if_pos c1]
          refine List.pairwise_cons.2 ⟨fun z hz => ?_, ih a (y :: b) (by simp; omega) ha'.2 hb⟩
          rcases (mg_mem d a (y :: b) (by simp; omega) z).1 hz with h | h
          · exact ha'.1 z h
          · rcases List.mem_cons.1 h with rfl | h
            · exact c1
            · exact bytesLess_trans _ _ _ c1 (hb'.1 z h)
        rw [if_neg c1]
        by_cases c2 : Op.bytesLess (toL y) (toL x) = true
        · rw [if_pos c2]
          refine List.pairwise_cons.2 ⟨fun z hz => ?_, ih (x :: a) b (by simp; omega) ha hb'.2⟩
          rcases (mg_mem d (x :: a) b (by simp; omega) z).1 hz with h | h
          · rcases List.mem_cons.1 h with rfl | h
            · exact c2
            · exact bytesLess_trans _ _ _ c2 (ha'.1 z h)
          · exact hb'.1 z h
        rw [if_neg c2]
        obtain rfl : x = y := by
          rcases bytesLess_tri (toL x) (toL y) with h | h | h
          · exact absurd h c1
          · exact toL_inj h
          · exact absurd h c2
        refine List.pairwise_cons.2 ⟨fun z hz => ?_, ih a b (by omega) ha'.2 hb'.2⟩
        rcases (mg_mem d a b (by omega) z).1 hz with h | h
        · exact ha'.1 z h
        · exact hb'.1 z h
theorem mg_length (d : Nat) : ∀ a b : List ByteArray, (mg d a b).length ≤ d := by
  induction d with
  | zero => intro a b; exact Nat.le_refl _
  | succ d ih =>
    intro a b
    cases a with
    | nil =>
      cases b with
      | nil => simp [mg]
      | cons y b => simp only [mg, List.length_cons]; have := ih [] b; omega
    | cons x a =>
      cases b with
      | nil => simp only [mg, List.length_cons]; have := ih a []; omega
      | cons y b =>
        unfold mg
        have h1 := ih a (y :: b)
        have h2 := ih (x :: a) b
        have h3 := ih a b
        split
        · simp only [List.length_cons]; omega
        · split
          · simp only [List.length_cons]; omega
          · simp only [List.length_cons]; omega
theorem both_loop (a b : List ByteArray) (ha : a.length < 1099511627776) (hb : b.length < 1099511627776) (d : Nat) : ∀ (i j : Nat) (out : List ByteArray), i ≤ a.length → j ≤ b.length → (a.length - i) + (b.length - j) ≤ d → out.length + d < 8796093022208 → Ev (fun k => q21_both.l0 k a b out (i : Int) (j : Int)) (out ++ mg d (a.drop i) (b.drop j)) := by
  have hend : ∀ (i j : Nat) (out : List ByteArray), Ev (fun k => q21_both.j1 k a b out (i : Int) (j : Int) false) out := fun i j out => Ev.step (f := fun _ => some out) (fun k => by simp only [q21_both.j1]; rw [if_neg (by decide)]) (Ev.now _)
  have hstart : ∀ (i j : Nat) (out : List ByteArray) (r : List ByteArray), i < a.length ∨ j < b.length → Ev (fun k => q21_both.j1 k a b out (i : Int) (j : Int) true) r → Ev (fun k => q21_both.l0 k a b out (i : Int) (j : Int)) r := fun i j out r h hr => Ev.step (fun k => by
    simp only [q21_both.l0]
    by_cases c : (i : Int) < (a.length : Int)
    · rw [if_pos c]
    · rw [if_neg c, decide_eq_true (by omega)]) hr
  have wi : ∀ i n : Nat, i < n → n < 1099511627776 → wrap64 ((i : Int) + 1) = ((i + 1 : Nat) : Int) := fun i n h1 h2 => by rw [w64 (by omega) (by omega)]; omega
  induction d with
  | zero =>
    intro i j out hi hj hd ho
    refine Ev.step (fun k => by simp only [q21_both.l0]; rw [if_neg (by omega), decide_eq_false (by omega)]) ?_
    rw [show mg 0 (a.drop i) (b.drop j) = [] from rfl, List.append_nil]
    exact hend i j out
  | succ d ih =>
    intro i j out hi hj hd ho
    have hleft : ∀ (x : ByteArray), (hx : i < a.length) → a[i] = x → ∀ r, Ev (fun k => q21_both.l0 k a b (out ++ [x]) ((i + 1 : Nat) : Int) (j : Int)) r → Ev (fun k => q21_both.j2 k a b out (i : Int) (j : Int) true) r := fun x hx e r hr => Ev.step (fun k => by
      simp only [q21_both.j2]
      rw [if_pos (by trivial), if_pos (by omega), if_pos (by omega), if_pos (by omega), rdOf_at _ a i hx, e, wi i _ hx ha]) hr
    by_cases cb : j < b.length
    · have eb : rdOf ByteArray.empty b (j : Int) = b[j] := rdOf_at _ b j cb
      by_cases ca : i < a.length
      · have ea : rdOf ByteArray.empty a (i : Int) = a[i] := rdOf_at _ a i ca
        refine hstart i j out _ (.inl ca) ?_
        rw [List.drop_eq_getElem_cons ca, List.drop_eq_getElem_cons cb]
        refine Ev.step (f := fun k => q21_both.j2 k a b out (i : Int) (j : Int) (Op.bytesLess (toL a[i]) (toL b[j]))) (fun k => by
          simp only [q21_both.j1]
          rw [if_pos (by trivial), if_neg (by omega), if_pos (by omega), if_pos (by omega), if_pos (by omega), if_pos (by omega), ea, eb, Lib.toList_data, Lib.toList_data]) ?_
        unfold mg
        by_cases c1 : Op.bytesLess (toL a[i]) (toL b[j]) = true
        · rw [if_pos c1, c1]
          refine hleft a[i] ca rfl _ ?_
          have := ih (i + 1) j (out ++ [a[i]]) (by omega) hj (by omega) (by simp; omega)
          rw [List.append_assoc, List.drop_eq_getElem_cons cb] at this
          exact this
        rw [if_neg c1, Bool.eq_false_iff.mpr c1]
        refine Ev.step (f := fun k => if Op.bytesLess (toL b[j]) (toL a[i]) = true then q21_both.l0 k a b (out ++ [b[j]]) (i : Int) ((j + 1 : Nat) : Int) else q21_both.l0 k a b (out ++ [a[i]]) ((i + 1 : Nat) : Int) ((j + 1 : Nat) : Int)) (fun k => by
          simp only [q21_both.j2]
          rw [if_neg (by decide), if_neg (by omega), if_pos (by omega), if_pos (by omega), if_pos (by omega), if_pos (by omega), ea, eb, Lib.toList_data, Lib.toList_data]
          simp only [if_pos (show out.length < 8796093022208 by omega), wi i _ ca ha, wi j _ cb hb]) ?_
        by_cases c2 : Op.bytesLess (toL b[j]) (toL a[i]) = true
        · simp only [if_pos c2]
          have := ih i (j + 1) (out ++ [b[j]]) hi (by omega) (by omega) (by simp; omega)
          rw [List.append_assoc, List.drop_eq_getElem_cons ca] at this
          exact this
        · simp only [if_neg c2]
          have := ih (i + 1) (j + 1) (out ++ [a[i]]) (by omega) (by omega) (by omega) (by simp; omega)
          rw [List.append_assoc] at this
          exact this
      · obtain rfl : i = a.length := by omega
        refine hstart _ j out _ (.inr cb) ?_
        rw [List.drop_length, List.drop_eq_getElem_cons cb]
        refine Ev.step (f := fun k => q21_both.j2 k a b out (a.length : Int) (j : Int) false) (fun k => by
          simp only [q21_both.j1]
          rw [if_pos (by trivial), if_neg (by omega), if_neg (by omega)]) ?_
        refine Ev.step (f := fun k => q21_both.l0 k a b (out ++ [b[j]]) (a.length : Int) ((j + 1 : Nat) : Int)) (fun k => by
          simp only [q21_both.j2, if_true, Bool.false_eq_true, if_false]
          rw [if_pos (by omega), if_pos (by omega), if_pos (by omega), eb, wi j _ cb hb]) ?_
        have := ih a.length (j + 1) (out ++ [b[j]]) hi (by omega) (by omega) (by simp; omega)
        rw [List.append_assoc, List.drop_length] at this
        exact this
    · obtain rfl : j = b.length := by omega
      by_cases ca : i < a.length
      · refine hstart i _ out _ (.inl ca) ?_
        rw [List.drop_eq_getElem_cons ca, List.drop_length]
        refine Ev.step (f := fun k => q21_both.j2 k a b out (i : Int) (b.length : Int) true) (fun k => by
          simp only [q21_both.j1, if_true]) ?_
        refine hleft a[i] ca rfl _ ?_
        have := ih (i + 1) b.length (out ++ [a[i]]) (by omega) hj (by omega) (by simp; omega)
        rw [List.append_assoc, List.drop_length] at this
        exact this
      · obtain rfl : i = a.length := by omega
        refine Ev.step (fun k => by simp only [q21_both.l0]; rw [if_neg (by omega), decide_eq_false (by omega)]) ?_
        rw [List.drop_length, List.drop_length, show mg (d + 1) [] [] = [] from rfl, List.append_nil]
        exact hend _ _ out
theorem both_ev (a b : List ByteArray) (ha : a.length < 1099511627776) (hb : b.length < 1099511627776) : Ev (fun k => q21_both.f k a b) (allN a b) := by
  have := both_loop a b ha hb (a.length + b.length) 0 0 [] (Nat.zero_le _) (Nat.zero_le _) (by omega) (by simp; omega)
  exact this
theorem texts_loop (a : List ByteArray) (ha : a.length < 1099511627776) (d : Nat) : ∀ i : Nat, i + d = a.length → Ev (fun k => q01_Texts.l0 k a a (i : Int)) true := by
  induction d with
  | zero => intro i hi; exact Ev.step (f := fun _ => some true) (fun k => by simp only [q01_Texts.l0]; rw [if_neg (by omega)]) (Ev.now _)
  | succ d ih =>
    intro i hi
    have hw : wrap64 ((i : Int) + 1) = ((i + 1 : Nat) : Int) := by rw [w64 (by omega) (by omega)]; omega
    exact Ev.step (fun k => by simp only [q01_Texts.l0]; rw [if_pos (by omega), if_pos (by omega), if_pos (by omega), if_pos trivial, hw]) (ih (i + 1) (by omega))
theorem texts_ev (a : List ByteArray) (ha : a.length < 1099511627776) : Ev (fun k => q01_Texts.f k a a) true := by
  unfold q01_Texts.f
  simp only [if_true]
  exact (texts_loop a ha a.length 0 (by omega))
theorem ints_loop (a : List Int) (ha : a.length < 1099511627776) (d : Nat) : ∀ i : Nat, i + d = a.length → Ev (fun k => q06_Ints.l0 k a a (i : Int)) true := by
  induction d with
  | zero => intro i hi; exact Ev.step (f := fun _ => some true) (fun k => by simp only [q06_Ints.l0]; rw [if_neg (by omega)]) (Ev.now _)
  | succ d ih =>
    intro i hi
    have hw : wrap64 ((i : Int) + 1) = ((i + 1 : Nat) : Int) := by rw [w64 (by omega) (by omega)]; omega
    exact Ev.step (fun k => by simp only [q06_Ints.l0]; rw [if_pos (by omega), if_pos (by omega), if_pos (by omega), if_pos trivial, hw]) (ih (i + 1) (by omega))
theorem ints_ev (a : List Int) (ha : a.length < 1099511627776) : Ev (fun k => q06_Ints.f k a a) true := by
  unfold q06_Ints.f
  simp only [if_true]
  exact (ints_loop a ha a.length 0 (by omega))
end Go.Proofs.YtigbmfogfgbmfaaDoor.Pure
