import Derived.Test.YtigbmfogfgbmfaaDoorWMore
import Derived.Lib.SlBytesConst
import Derived.Lib.BitFns
import Derived.Deep.Light
import Derived.Laws.Externs
import Derived.Lib.SliceRun
import Derived.Lib.AsciiSet
import Derived.Lib.SlTrimSet
import Derived.Lib.Bytealg
import Derived.Deep.WholeRow
import Derived.Laws.ResultCell
import Derived.Laws.RangeString
import Derived.BigQuiet
import Derived.WalkLawsBesides
import Derived.StillTailTactics
namespace Go.Proofs.YtigbmfogfgbmfaaDoorW.PrintWords.Kd
open Go.RowKit
section
variable {P : Program} {ops : Array Oper} {rest : List Oper} {o : Oper} {a : Act} {Q : Exit → Act → World → Prop} {α : Type}
end
end Go.Proofs.YtigbmfogfgbmfaaDoorW.PrintWords.Kd
namespace Go.Proofs.YtigbmfogfgbmfaaDoorW.PrintWords.Kd
open Go.RowKit
section
variable {P : Program} {ops : Array Oper} {rest : List Oper} {o : Oper} {a : Act} {Q : Exit → Act → World → Prop} {α : Type}
end
end Go.Proofs.YtigbmfogfgbmfaaDoorW.PrintWords.Kd
namespace Go.Proofs.YtigbmfogfgbmfaaDoorW.PrintWords
open Go.RowKit
theorem loadRow_run {P : Program} {w : World} {ty : TypeId} {g : Nat} {v : Value} (h : (loadVar ty ⟨g, 0, none⟩).run P w = .ok v w) {N : Option Tmp} {x : Operand} {tp : TypeId} {pos : String} {af : Array Edge} {gd : Option (Nat × Bool)} {ev : Operand → Value} (hx : ev x = .pointer (some ⟨g, 0, none⟩)) :
    (execOp ev { dst := N, op := .load ty x, type := tp, pos := pos, after := af, guard := gd }).run P w = .ok (.value v) w := by
  simp [execOp, hx, Instr.loadAt, Instr.sureAddr, h, Result.andThen]
theorem storeRow_run {P : Program} {w w1 : World} {ty : TypeId} {g : Nat} {v : Value} (h : (storeVar ty ⟨g, 0, none⟩ v).run P w = .ok () w1) {N : Option Tmp} {x y : Operand} {tp : TypeId} {pos : String} {af : Array Edge} {gd : Option (Nat × Bool)} {ev : Operand → Value} (hx : ev x = .pointer (some ⟨g, 0, none⟩)) (hy : ev y = v) :
    (execOp ev { dst := N, op := .store ty x y, type := tp, pos := pos, after := af, guard := gd }).run P w = .ok .skip w1 := by
  simp [execOp, hx, hy, Instr.storeAt, Instr.sureAddr, h, Result.andThen]
theorem b1 {base : Nat} {w W : World} (h : Below base w W) : Below base w W.drew := below_drew1 h
section
variable {P : Program} {ops : Array Oper} {md : Region.Mode} {C : World → Prop}
end
section
variable {P : Program} {ops : Array Oper} {md : Region.Mode}
def upd (u : Nat → Value) (k : Nat) (v : Value) : Nat → Value := fun j => if j = k then v else u j
def ancB (md : Region.Mode) (ops : Array Oper) (anc : Nat → List Nat) : Bool :=
  (List.range ops.size).all fun k => match ops[k]? with
    | some o => (o.after.all fun e => !Region.binds md e || decide (e.on < k)) && (anc k).all fun i => decide (i < k) && o.after.any fun e => Region.binds md e && (e.on == i || (anc e.on).contains i)
    | none => false
theorem countP_one (p q : Nat → Bool) (i : Nat) (hp : p i = true) (hq : q i = false) (hne : ∀ j, j ≠ i → q j = p j) : ∀ l : List Nat, l.Nodup → i ∈ l → l.countP q + 1 = l.countP p
  | [], _, h => by simp at h
  | x :: l, hn, h => by
    rw [List.nodup_cons] at hn
    by_cases e : x = i
    · subst e
      rw [List.countP_cons, List.countP_cons, hp, hq]
      have : l.countP q = l.countP p := List.countP_congr (fun j hj => by rw [hne j (fun e => hn.1 (e ▸ hj))])
      simp [this]
    · have hi : i ∈ l := by
        rcases List.mem_cons.1 h with h | h
        · exact absurd h.symm e
        · exact h
      have := countP_one p q i hp hq hne l hn.2 hi
      rw [List.countP_cons, List.countP_cons, hne x e]
      omega
theorem least_of {p : Nat → Prop} [DecidablePred p] : ∀ n : Nat, p n → ∃ i, i ≤ n ∧ p i ∧ ∀ j, j < i → ¬ p j := by
  intro n
  induction n using Nat.strongRecOn with
  | _ n ih =>
    intro h
    by_cases hq : ∃ j, j < n ∧ p j
    · obtain ⟨j, hj, hp⟩ := hq
      obtain ⟨i, h1, h2, h3⟩ := ih j hj hp
      exact ⟨i, by omega, h2, h3⟩
    · exact ⟨n, Nat.le_refl _, h, fun j hj hp => hq ⟨j, hj, hp⟩⟩
def FreeStep (P : Program) (ops : Array Oper) (Q : Exit → Act → World → Prop) (Step : World → World → Prop) (o : Oper) (a : Act) (W : World) (R : Value → World → Prop) : Prop :=
  ∀ K : Act → World → Prop, Aside0 (∀ v W', Step W W' → R v W' → K (a.put o.dst v) W') → if Region.wanted o (yielded ops a.tmps) = true then Oper.wp P o a W K Q else K (a.put o.dst undef) W
end
theorem rdOf_at {α : Type} (z : α) (l : List α) (i : Nat) (h : i < l.length) : rdOf z l (i : Int) = l[i] := by simp [rdOf, h]
theorem rd_at (l : List Int) (i : Nat) (h : i < l.length) : rd l (i : Int) = l[i] := by simp [rd, h]
theorem bytesLess_irrefl : ∀ a : List UInt8, Op.bytesLess a a = false
  | [] => rfl
  | a :: x => by simp [Op.bytesLess, bytesLess_irrefl x, UInt8.lt_irrefl]
theorem bytesLess_asymm : ∀ a b : List UInt8, Op.bytesLess a b = true → Op.bytesLess b a = false
  | _, [], h => by simp [Op.bytesLess] at h
  | [], _ :: _, _ => rfl
  | a :: x, b :: y, h => by
    simp only [Op.bytesLess, Bool.or_eq_true, Bool.and_eq_true, decide_eq_true_eq, beq_iff_eq] at h
    simp only [Op.bytesLess, Bool.or_eq_false_iff, Bool.and_eq_false_iff, decide_eq_false_iff_not]
    rcases h with h | ⟨rfl, h⟩
    · exact ⟨UInt8.lt_asymm h, .inl (beq_eq_false_iff_ne.mpr fun e => by subst e; exact UInt8.lt_irrefl _ h)⟩
    · exact ⟨UInt8.lt_irrefl _, .inr (bytesLess_asymm x y h)⟩
theorem bytesLess_tri : ∀ a b : List UInt8, Op.bytesLess a b = true ∨ a = b ∨ Op.bytesLess b a = true
  | [], [] => .inr (.inl rfl)
  | [], _ :: _ => .inl rfl
  | _ :: _, [] => .inr (.inr rfl)
  | a :: x, b :: y => by
    simp only [Op.bytesLess, Bool.or_eq_true, Bool.and_eq_true, decide_eq_true_eq, beq_iff_eq]
    by_cases e : a = b
    · subst e
      rcases bytesLess_tri x y with h | h | h
      · exact .inl (.inr ⟨rfl, h⟩)
      · exact .inr (.inl (by rw [h]))
      · exact .inr (.inr (.inr ⟨rfl, h⟩))
    · rcases UInt8.lt_or_lt_of_ne e with h | h
      · exact .inl (.inl h)
      · exact .inr (.inr (.inl h))
theorem bytesLess_trans : ∀ a b c : List UInt8, Op.bytesLess a b = true → Op.bytesLess b c = true → Op.bytesLess a c = true
  | _, [], _, h, _ => by simp [Op.bytesLess] at h
  | _, _ :: _, [], _, k => by simp [Op.bytesLess] at k
  | [], _ :: _, _ :: _, _, _ => rfl
  | a :: x, b :: y, c :: z, h, k => by
    simp only [Op.bytesLess, Bool.or_eq_true, Bool.and_eq_true, decide_eq_true_eq, beq_iff_eq] at h k ⊢
    rcases h with h | ⟨rfl, h⟩
    · rcases k with k | ⟨rfl, k⟩
      · exact .inl (UInt8.lt_trans h k)
      · exact .inl h
    · rcases k with k | ⟨rfl, k⟩
      · exact .inl k
      · exact .inr ⟨rfl, bytesLess_trans x y z h k⟩
def digs : List UInt8 := [48, 49, 50, 51, 52, 53, 54, 55, 56, 57, 97, 98, 99, 100, 101, 102]
theorem digs_ascii (j : Nat) (b : UInt8) (h : digs[j]? = some b) : b.toNat < 128 := by
  have : ∀ x ∈ digs, x.toNat < 128 := by decide
  exact this b (List.mem_of_getElem? h)
def dg (c : UInt8) : Int := Lib.indexByte digs c
def isKey (s : ByteArray) : Bool := decide (s.size = 64) && s.data.toList.all (digs.contains ·)
def keyAt (l : List UInt8) (i : Nat) : List Int := (List.range 32).map fun j => (if 2 * j < i then 16 * dg (l.getD (2 * j) 0) else 0) + (if 2 * j + 1 < i then dg (l.getD (2 * j + 1) 0) else 0)
def keyRow (s : ByteArray) : List Int := keyAt s.data.toList 64
theorem dg_range (c : UInt8) (h : digs.contains c = true) : 0 ≤ dg c ∧ dg c ≤ 15 := by
  have : ∀ c ∈ digs, 0 ≤ dg c ∧ dg c ≤ 15 := by decide
  exact this c (by simpa using h)
theorem digs_low (c : UInt8) (h : digs.contains c = true) : c.toNat < 128 := by
  have : ∀ c ∈ digs, c.toNat < 128 := by decide
  exact this c (by simpa using h)
theorem keyAt_length (l : List UInt8) (i : Nat) : (keyAt l i).length = 32 := by simp [keyAt]
theorem keyAt_get (l : List UInt8) (i j : Nat) (hj : j < 32) : (keyAt l i)[j]? = some ((if 2 * j < i then 16 * dg (l.getD (2 * j) 0) else 0) + (if 2 * j + 1 < i then dg (l.getD (2 * j + 1) 0) else 0)) := by
  simp [keyAt, hj]
theorem keyAt_zero (l : List UInt8) : keyAt l 0 = List.replicate 32 0 := by
  apply List.ext_getElem? ; intro j
  by_cases hj : j < 32
  · rw [keyAt_get l 0 j hj, List.getElem?_replicate, if_pos hj]; simp
  · rw [List.getElem?_eq_none (by rw [keyAt_length]; omega), List.getElem?_eq_none (by simp; omega)]
theorem keyAt_even (l : List UInt8) (m : Nat) (hm : m < 32) : (keyAt l (2 * m)).set m (16 * dg (l.getD (2 * m) 0)) = keyAt l (2 * m + 1) := by
  apply List.ext_getElem? ; intro j
  by_cases hj : j < 32
  · rw [List.getElem?_set, keyAt_length, keyAt_get l _ j hj, keyAt_get l _ j hj]
    by_cases e : m = j
    · subst e; simp [hm]
    · rw [if_neg e]; congr 1
      simp only [show (2 * j < 2 * m) = (2 * j < 2 * m + 1) from by apply propext; omega, show (2 * j + 1 < 2 * m) = (2 * j + 1 < 2 * m + 1) from by apply propext; omega]
  · rw [List.getElem?_eq_none (by rw [List.length_set, keyAt_length]; omega), List.getElem?_eq_none (by rw [keyAt_length]; omega)]
theorem keyAt_odd (l : List UInt8) (m : Nat) (hm : m < 32) : (keyAt l (2 * m + 1)).set m (16 * dg (l.getD (2 * m) 0) + dg (l.getD (2 * m + 1) 0)) = keyAt l (2 * m + 1 + 1) := by
  apply List.ext_getElem? ; intro j
  by_cases hj : j < 32
  · rw [List.getElem?_set, keyAt_length, keyAt_get l _ j hj, keyAt_get l _ j hj]
    by_cases e : m = j
    · subst e; simp [hm]; omega
    · rw [if_neg e]; congr 1
      simp only [show (2 * j < 2 * m + 1) = (2 * j < 2 * m + 1 + 1) from by apply propext; omega, show (2 * j + 1 < 2 * m + 1) = (2 * j + 1 < 2 * m + 1 + 1) from by apply propext; omega]
  · rw [List.getElem?_eq_none (by rw [List.length_set, keyAt_length]; omega), List.getElem?_eq_none (by rw [keyAt_length]; omega)]
theorem or_even (q : Int) (h0 : 0 ≤ q) (h1 : q ≤ 15) : Go.bits .or .u8 0 (q * 16) = 16 * q := by
  have : ∀ n : Fin 16, Go.bits .or .u8 0 ((n.1 : Int) * 16) = 16 * (n.1 : Int) := by decide +kernel
  have h := this ⟨q.toNat, by omega⟩
  simpa [Int.toNat_of_nonneg h0] using h
theorem or_odd (p q : Int) (h0 : 0 ≤ p) (h1 : p ≤ 15) (h2 : 0 ≤ q) (h3 : q ≤ 15) : Go.bits .or .u8 (16 * p) q = 16 * p + q := by
  have : ∀ n m : Fin 16, Go.bits .or .u8 (16 * (n.1 : Int)) (m.1 : Int) = 16 * (n.1 : Int) + (m.1 : Int) := by decide +kernel
  have h := this ⟨p.toNat, by omega⟩ ⟨q.toNat, by omega⟩
  simpa [Int.toNat_of_nonneg h0, Int.toNat_of_nonneg h2] using h
theorem keyCells_set (l : List UInt8) (i j m : Nat) (v : Int) (h : (keyAt l i).set m v = keyAt l j) : (((keyAt l i).map (Value.int .u8)).toArray).setIfInBounds m (.int .u8 v) = ((keyAt l j).map (Value.int .u8)).toArray := by
  rw [← h]; simp [List.map_set]
theorem dropWhile_nil {α : Type} (p : α → Bool) (l : List α) : l.dropWhile p = [] ↔ ∀ x ∈ l, p x = true := by
  induction l with
  | nil => simp
  | cons a l ih =>
    rw [List.dropWhile_cons]
    by_cases h : p a = true
    · simp [h, ih]
    · simp [h]
theorem trimS_empty (l cs : List UInt8) : Lib.trimS l cs = [] ↔ l.all (cs.contains ·) = true := by
  unfold Lib.trimS Lib.trimLeftS Lib.trimRightS
  rw [dropWhile_nil]
  constructor
  · intro h
    by_cases hd : l.reverse.dropWhile (cs.contains ·) = []
    · rw [dropWhile_nil] at hd
      rw [List.all_eq_true]; intro x hx; exact hd x (by simpa using hx)
    · exfalso
      have hh := List.head_dropWhile_not (cs.contains ·) (l := l.reverse) hd
      have hm := h ((l.reverse.dropWhile (cs.contains ·)).head hd) (by rw [List.mem_reverse]; exact List.head_mem hd)
      rw [hm] at hh; cases hh
  · intro h x hx
    rw [List.all_eq_true] at h
    rw [List.mem_reverse] at hx
    exact h x (by have := (List.dropWhile_sublist (cs.contains ·) (l := l.reverse)).subset hx; simpa using this)
end Go.Proofs.YtigbmfogfgbmfaaDoorW.PrintWords
