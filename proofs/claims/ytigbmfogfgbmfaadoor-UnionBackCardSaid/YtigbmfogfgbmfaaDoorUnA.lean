import Derived.Test.YtigbmfogfgbmfaaDoorLsA
import Derived.Lib.SlMapMerge
import Derived.Lib.SlMapFilter
import Derived.Test.YtigbmfogfgbmfaaDoorHx0
import Derived.Test.YtigbmfogfgbmfaaDoorHx3
import Derived.Test.YtigbmfogfgbmfaaDoorHx4
import Derived.Test.YtigbmfogfgbmfaaDoorHx5
import Derived.Test.YtigbmfogfgbmfaaDoorHx9
namespace Go.Proofs.YtigbmfogfgbmfaaDoor.Pure
open Go.RowKit Go.Proofs.YtigbmfogfgbmfaaDoor.Fn Go.Proofs.YtigbmfogfgbmfaaDoorW.PrintWords Go.Proofs.YtigbmfogfgbmfaaDoorW.PrintLast Go.Proofs.YtigbmfogfgbmfaaDoor.U
set_option linter.unusedVariables false
set_option linter.unusedSimpArgs false
def numL : List ByteArray → List Int → List UInt8 → Option Int
  | s :: ss, v :: vs, x => if toL s = x then some v else numL ss vs x
  | _, _, _ => none
def numV (l : List ByteArray) (n : List Int) (x : List UInt8) : Int := (numL l n x).getD (-1)
theorem numL_mem {l : List ByteArray} {n : List Int} {x : List UInt8} {v : Int} (h : numL l n x = some v) : x ∈ l.map toL ∧ v ∈ n := by
  induction l generalizing n with
  | nil => cases h
  | cons s ss ih =>
    cases n with
    | nil => cases h
    | cons w vs =>
      rw [show numL (s :: ss) (w :: vs) x = if toL s = x then some w else numL ss vs x from rfl] at h
      by_cases c : toL s = x
      · rw [if_pos c] at h; cases h; simp [c]
      · rw [if_neg c] at h; have := ih h; simp [this.1, this.2]
theorem numL_some {l : List ByteArray} {n : List Int} (hn : l.length ≤ n.length) {x : List UInt8} (h : x ∈ l.map toL) : ∃ v, numL l n x = some v := by
  induction l generalizing n with
  | nil => cases h
  | cons s ss ih =>
    cases n with
    | nil => simp at hn
    | cons w vs =>
      rw [show numL (s :: ss) (w :: vs) x = if toL s = x then some w else numL ss vs x from rfl]
      by_cases c : toL s = x
      · rw [if_pos c]; exact ⟨w, rfl⟩
      · rw [if_neg c]
        refine ih (by simpa using hn) ?_
        rw [List.map_cons, List.mem_cons] at h
        rcases h with h | h
        · exact absurd h.symm c
        · exact h
theorem numV_mem {l : List ByteArray} {n : List Int} {x : List UInt8} (h : 0 ≤ numV l n x) : x ∈ l.map toL ∧ numV l n x ∈ n := by
  unfold numV at h ⊢
  cases hc : numL l n x with
  | none => rw [hc] at h; exact absurd h (by decide)
  | some v => exact numL_mem hc
def mg : Nat → List ByteArray → List ByteArray → List ByteArray
  | 0, _, _ => []
  | _ + 1, [], [] => []
  | d + 1, x :: a, [] => x :: mg d a []
  | d + 1, [], y :: b => y :: mg d [] b
  | d + 1, x :: a, y :: b => if Op.bytesLess (toL x) (toL y) = true then x :: mg d a (y :: b) else if Op.bytesLess (toL y) (toL x) = true then y :: mg d (x :: a) b else x :: mg d a b
def allN (a b : List ByteArray) : List ByteArray := mg (a.length + b.length) a b
theorem mg_mem (d : Nat) : ∀ (a b : List ByteArray), a.length + b.length ≤ d → ∀ z, z ∈ mg d a b ↔ z ∈ a ∨ z ∈ b := by
  induction d with
  | zero =>
    intro a b h z
    obtain rfl : a = [] := List.eq_nil_of_length_eq_zero (by omega)
    obtain rfl : b = [] := List.eq_nil_of_length_eq_zero (by omega)
    simp [mg]
  | succ d ih =>
    intro a b h z
    cases a with
    | nil =>
      cases b with
      | nil => simp [mg]
      | cons y b => simp only [List.length_cons, List.length_nil] at h; simp [mg, ih [] b (by simp; omega)]
    | cons x a =>
      cases b with
      | nil => simp only [List.length_cons, List.length_nil] at h; simp [mg, ih a [] (by simp; omega)]
      | cons y b =>
        simp only [List.length_cons] at h
        unfold mg
        by_cases c1 : Op.bytesLess (toL x) (toL y) = true
        · rw [if_pos c1, List.mem_cons, ih a (y :: b) (by simp; omega)]; simp [or_assoc]
        rw [if_neg c1]
        by_cases c2 : Op.bytesLess (toL y) (toL x) = true
        · rw [if_pos c2, List.mem_cons, ih (x :: a) b (by simp; omega)]
          simp only [List.mem_cons]
          constructor
          · rintro (h | (h | h) | h)
            · exact .inr (.inl h)
            · exact .inl (.inl h)
            · exact .inl (.inr h)
            · exact .inr (.inr h)
          · rintro ((h | h) | (h | h))
            · exact .inr (.inl (.inl h))
            · exact .inr (.inl (.inr h))
            · exact .inl h
            · exact .inr (.inr h)
        rw [if_neg c2]
        obtain rfl : x = y := by
          rcases bytesLess_tri (toL x) (toL y) with h | h | h
          · exact absurd h c1
          · exact toL_inj h
          · exact absurd h c2
        rw [List.mem_cons, ih a b (by omega)]
        simp only [List.mem_cons]
        constructor
        · rintro (h | h | h)
          · exact .inl (.inl h)
          · exact .inl (.inr h)
          · exact .inr (.inr h)
        · rintro ((h | h) | (h | h))
          · exact .inl h
          · exact .inr (.inl h)
          · exact .inl h
          · exact .inr (.inr h)
abbrev Rises (l : List ByteArray) : Prop := l.Pairwise (fun a b => Lt (toL a) (toL b))
theorem mg_rises (d : Nat) : ∀ (a b : List ByteArray), a.length + b.length ≤ d → Rises a → Rises b → Rises (mg d a b) := by
  induction d with
  | zero => intro a b _ _ _; exact List.Pairwise.nil
  | succ d ih =>
    intro a b h ha hb
    cases a with
    | nil =>
      cases b with
      | nil => exact List.Pairwise.nil
      | cons y b =>
        simp only [List.length_cons, List.length_nil] at h
        have hb' := List.pairwise_cons.1 hb
        exact List.pairwise_cons.2 ⟨fun z hz => by
          rcases (mg_mem d [] b (by simp; omega) z).1 hz with h | h
          · cases h
          · exact hb'.1 z h, ih [] b (by simp; omega) ha hb'.2⟩
    | cons x a =>
      have ha' := List.pairwise_cons.1 ha
      cases b with
      | nil =>
        simp only [List.length_cons, List.length_nil] at h
        refine List.pairwise_cons.2 ⟨fun z hz => ?_, ih a [] (by simp; omega) ha'.2 hb⟩
        rcases (mg_mem d a [] (by simp; omega) z).1 hz with h | h
        · exact ha'.1 z h
        · cases h
      | cons y b =>
        have hb' := List.pairwise_cons.1 hb
        simp only [List.length_cons] at h
        unfold mg
        by_cases c1 : Op.bytesLess (toL x) (toL y) = true
        · rw [if_pos c1]
          refine List.pairwise_cons.2 ⟨fun z hz => ?_, ih a (y :: b) (by simp; omega) ha'.2 hb⟩
          rcases (mg_mem d a (y :: b) (by simp; omega) z).1 hz with h | h
          · exact ha'.1 z h
          · rcases List.mem_cons.1 h with rfl | h
            · exact c1
            · exact bytesLess_trans _ _ _ c1 (hb'.1 z h)
        rw [if_neg c1]
        by_cases c2 : Op.bytesLess (toL y) (toL x) = true
        · rw [if_pos c2]
          refine List.pairwise_cons.2 ⟨fun z hz => ?_, ih (x :: a) b (by simp; omega) ha hb'.2⟩
          rcases (mg_mem d (x :: a) b (by simp; omega) z).1 hz with h | h
          · rcases List.mem_cons.1 h with rfl | h
            · exact c2
            · exact bytesLess_trans _ _ _ c2 (ha'.1 z h)
          · exact hb'.1 z h
        rw [if_neg c2]
        obtain rfl : x = y := by
          rcases bytesLess_tri (toL x) (toL y) with h | h | h
          · exact absurd h c1
          · exact toL_inj h
          · exact absurd h c2
        refine List.pairwise_cons.2 ⟨fun z hz => ?_, ih a b (by omega) ha'.2 hb'.2⟩
        rcases (mg_mem d a b (by omega) z).1 hz with h | h
        · exact ha'.1 z h
        · exact hb'.1 z h
theorem mg_length (d : Nat) : ∀ a b : List ByteArray, (mg d a b).length ≤ d := by
  induction d with
  | zero => intro a b; exact Nat.le_refl _
  | succ d ih =>
    intro a b
    cases a with
    | nil =>
      cases b with
      | nil => simp [mg]
      | cons y b => simp only [mg, List.length_cons]; have := ih [] b; omega
    | cons x a =>
      cases b with
      | nil => simp only [mg, List.length_cons]; have := ih a []; omega
      | cons y b =>
        unfold mg
        have h1 := ih a (y :: b)
        have h2 := ih (x :: a) b
        have h3 := ih a b
        split
        · simp only [List.length_cons]; omega
        · split
          · simp only [List.length_cons]; omega
          · simp only [List.length_cons]; omega
theorem texts_loop (a : List ByteArray) (ha : a.length < 1099511627776) (d : Nat) : ∀ i : Nat, i + d = a.length → Ev (fun k => q01_Texts.l0 k a a (i : Int)) true := by
  induction d with
  | zero => intro i hi; exact Ev.step (f := fun _ => some true) (fun k => by simp only [q01_Texts.l0]; rw [if_neg (by omega)]) (Ev.now _)
  | succ d ih =>
    intro i hi
    have hw : wrap64 ((i : Int) + 1) = ((i + 1 : Nat) : Int) := by rw [w64 (by omega) (by omega)]; omega
    exact Ev.step (fun k => by simp only [q01_Texts.l0]; rw [if_pos (by omega), if_pos (by omega), if_pos (by omega), if_pos trivial, hw]) (ih (i + 1) (by omega))
theorem texts_ev (a : List ByteArray) (ha : a.length < 1099511627776) : Ev (fun k => q01_Texts.f k a a) true := by
  unfold q01_Texts.f
  simp only [if_true]
  exact (texts_loop a ha a.length 0 (by omega))
theorem ints_loop (a : List Int) (ha : a.length < 1099511627776) (d : Nat) : ∀ i : Nat, i + d = a.length → Ev (fun k => q06_Ints.l0 k a a (i : Int)) true := by
  induction d with
  | zero => intro i hi; exact Ev.step (f := fun _ => some true) (fun k => by simp only [q06_Ints.l0]; rw [if_neg (by omega)]) (Ev.now _)
  | succ d ih =>
    intro i hi
    have hw : wrap64 ((i : Int) + 1) = ((i + 1 : Nat) : Int) := by rw [w64 (by omega) (by omega)]; omega
    exact Ev.step (fun k => by simp only [q06_Ints.l0]; rw [if_pos (by omega), if_pos (by omega), if_pos (by omega), if_pos trivial, hw]) (ih (i + 1) (by omega))
theorem ints_ev (a : List Int) (ha : a.length < 1099511627776) : Ev (fun k => q06_Ints.f k a a) true := by
  unfold q06_Ints.f
  simp only [if_true]
  exact (ints_loop a ha a.length 0 (by omega))
end Go.Proofs.YtigbmfogfgbmfaaDoor.Pure
