import Derived.Test.YtfffnogmkbbfkaaDoorKeyT
import Derived.Test.YtfffnogmkbbfkaaDoorCrcA
namespace Go.Proofs.YtfffnogmkbbfkaaDoor.SupA
open Go.RowKit Go.Proofs.YtfffnogmkbbfkaaDoorW.PrintWords Go.Proofs.YtfffnogmkbbfkaaDoorW.PrintLast Go.Proofs.YtfffnogmkbbfkaaDoor.U Go.Proofs.YtfffnogmkbbfkaaDoor.CrcA Go.Proofs.YtfffnogmkbbfkaaDoor.Pure
set_option linter.unusedVariables false
set_option linter.unusedSimpArgs false
def bytes8 (x : Nat) : List Nat := (List.range 8).map fun i => x / 2 ^ (8 * i) % 256
theorem bytes8_length (x : Nat) : (bytes8 x).length = 8 := by simp [bytes8]
theorem bytes8_lt (x : Nat) : ∀ y ∈ bytes8 x, y < 256 := by
  intro y hy
  obtain ⟨i, _, rfl⟩ := List.mem_map.1 hy
  exact Nat.mod_lt _ (by decide)
theorem bytes8_get (x i : Nat) (hi : i < 8) : (bytes8 x)[i]? = some (x / 2 ^ (8 * i) % 256) := by simp [bytes8, hi]
theorem le_lt : ∀ l : List Nat, (∀ x ∈ l, x < 256) → le l < 2 ^ (8 * l.length)
  | [], _ => by simp [le]
  | x :: l, h => by
    have ih := le_lt l (fun y hy => h y (by simp [hy]))
    rw [le_cons (h x (by simp)), List.length_cons, show 8 * (l.length + 1) = 8 * l.length + 8 from by omega, Nat.pow_add]
    have := h x (by simp)
    omega
theorem le_append : ∀ a b : List Nat, (∀ x ∈ a, x < 256) → le (a ++ b) = le a + 2 ^ (8 * a.length) * le b
  | [], b, _ => by simp [le]
  | x :: a, b, h => by
    have ih := le_append a b (fun y hy => h y (by simp [hy]))
    rw [List.cons_append, le_cons (h x (by simp)), ih, le_cons (h x (by simp)), List.length_cons, show 8 * (a.length + 1) = 8 * a.length + 8 from by omega, Nat.pow_add, Nat.mul_add, ← Nat.mul_assoc, Nat.mul_comm (2 ^ (8 * a.length)) (2 ^ 8), Nat.add_assoc]
theorem le_take_succ (l : List Nat) (i : Nat) (hi : i < l.length) (h : ∀ x ∈ l, x < 256) : le (l.take (i + 1)) = le (l.take i) + l[i] * 2 ^ (8 * i) := by
  rw [List.take_succ_eq_append_getElem hi, le_append _ _ (fun x hx => h x (List.mem_of_mem_take hx)), le_cons (h _ (List.getElem_mem hi)), List.length_take, Nat.min_eq_left (by omega)]
  simp [le, Nat.mul_comm]
theorem le_bytes8 {x : Nat} (h : x < 18446744073709551616) : le (bytes8 x) = x := by
  have e : bytes8 x = [x % 256, x / 256 % 256, x / 65536 % 256, x / 16777216 % 256, x / 4294967296 % 256, x / 1099511627776 % 256, x / 281474976710656 % 256, x / 72057594037927936 % 256] := by
    simp [bytes8, List.range_succ]
  rw [e]
  iterate 8 rw [le_cons (Nat.mod_lt _ (by decide))]
  simp only [le]
  omega
theorem bytes8_le {l : List Nat} (hl : l.length = 8) (h : ∀ x ∈ l, x < 256) : bytes8 (le l) = l := by
  have hlt := le_lt l h
  rw [hl] at hlt
  exact le_inj _ _ (by rw [bytes8_length, hl]) (bytes8_lt _) h (le_bytes8 (Nat.lt_of_lt_of_eq hlt (by decide)))
def rises : Int → List Int → Bool
  | _, [] => true
  | m, p :: ps => decide (m < p) && decide (p < 62) && rises p ps
def mapOf : List Int → Nat
  | [] => 0
  | p :: ps => 2 ^ p.toNat ||| mapOf ps
theorem rises_mem : ∀ (ps : List Int) (m : Int), rises m ps = true → ∀ p ∈ ps, m < p ∧ p < 62
  | [], _, _, _, hp => by simp at hp
  | q :: ps, m, h, p, hp => by
    simp only [rises, Bool.and_eq_true, decide_eq_true_eq] at h
    rcases List.mem_cons.1 hp with rfl | hp
    · exact h.1
    · have := rises_mem ps q h.2 p hp; omega
theorem mapOf_lt : ∀ ps : List Int, (∀ p ∈ ps, 0 ≤ p ∧ p < 62) → mapOf ps < 2 ^ 62
  | [], _ => by decide
  | p :: ps, h => by
    have h1 := h p (by simp)
    exact Nat.or_lt_two_pow (Nat.pow_lt_pow_right (by decide) (by omega)) (mapOf_lt ps (fun q hq => h q (by simp [hq])))
theorem mapOf_bit : ∀ (ps : List Int) (q : Nat), (∀ p ∈ ps, 0 ≤ p) → ((mapOf ps).testBit q = true ↔ (q : Int) ∈ ps)
  | [], q, _ => by simp [mapOf]
  | p :: ps, q, h => by
    have h1 := h p (by simp)
    have ih := mapOf_bit ps q (fun r hr => h r (by simp [hr]))
    have e : (2 ^ p.toNat).testBit q = decide (p.toNat = q) := Nat.testBit_two_pow
    rw [mapOf, Nat.testBit_or, e, Bool.or_eq_true, ih, decide_eq_true_eq, List.mem_cons]
    constructor
    · rintro (h2 | h2)
      · left; omega
      · exact .inr h2
    · rintro (h2 | h2)
      · left; omega
      · exact .inr h2
def packsAt (M : Nat) : List Int := ((List.range' 0 62).filter fun p => M.testBit p).map Int.ofNat
theorem packs_filter (B : Nat → Bool) : ∀ (n a : Nat) (ps : List Int), a + n = 62 → rises ((a : Int) - 1) ps = true → (∀ q : Nat, a ≤ q → q < 62 → (B q = true ↔ (q : Int) ∈ ps)) → ((List.range' a n).filter B).map Int.ofNat = ps
  | 0, a, ps, ha, hr, _ => by
    cases ps with
    | nil => rfl
    | cons p ps =>
      have := rises_mem _ _ hr p (by simp)
      omega
  | n + 1, a, ps, ha, hr, hb => by
    rw [List.range'_succ]
    have hA := hb a (Nat.le_refl _) (by omega)
    cases ps with
    | nil =>
      have hBa : B a = false := by
        cases h : B a with
        | false => rfl
        | true => have := hA.1 h; simp at this
      rw [List.filter_cons_of_neg (by rw [hBa]; decide)]
      exact packs_filter B n (a + 1) [] (by omega) rfl (fun q h1 h2 => hb q (by omega) h2)
    | cons p ps =>
      have hr0 := hr
      simp only [rises, Bool.and_eq_true, decide_eq_true_eq] at hr
      by_cases hp : p = (a : Int)
      · have hBa : B a = true := hA.2 (by rw [hp]; simp)
        rw [List.filter_cons_of_pos hBa, List.map_cons, packs_filter B n (a + 1) ps (by omega) (by rw [show ((a + 1 : Nat) : Int) - 1 = (a : Int) from by omega, ← hp]; exact hr.2) (fun q h1 h2 => by
          rw [hb q (by omega) h2, List.mem_cons]
          constructor
          · rintro (h | h)
            · omega
            · exact h
          · exact .inr)]
        rw [hp]; rfl
      · have hBa : B a = false := by
          cases h : B a with
          | false => rfl
          | true =>
            rcases List.mem_cons.1 (hA.1 h) with h2 | h2
            · exact absurd h2.symm hp
            · have := rises_mem ps p hr.2 _ h2; omega
        rw [List.filter_cons_of_neg (by rw [hBa]; decide)]
        refine packs_filter B n (a + 1) (p :: ps) (by omega) ?_ (fun q h1 h2 => hb q (by omega) h2)
        simp only [rises, Bool.and_eq_true, decide_eq_true_eq]
        exact ⟨⟨by omega, hr.1.2⟩, hr.2⟩
theorem packsAt_mapOf {ps : List Int} (h : rises (-1) ps = true) : packsAt (mapOf ps) = ps :=
  packs_filter _ 62 0 ps rfl h (fun q _ _ => mapOf_bit ps q (fun p hp => by have := rises_mem ps _ h p hp; omega))
def okS (g : Int) (s : ByteArray) (ps : List Int) : Bool := rises (-1) ps && (decide (1 ≤ g) && (decide (g ≤ 4611686018427387903) && isKey s))
theorem okS_parts {g : Int} {s : ByteArray} {ps : List Int} (h : okS g s ps = true) : rises (-1) ps = true ∧ 1 ≤ g ∧ g ≤ 4611686018427387903 ∧ isKey s = true := by
  simp only [okS, Bool.and_eq_true, decide_eq_true_eq] at h
  exact ⟨h.1, h.2.1, h.2.2.1, h.2.2.2⟩
theorem rises_step : ∀ (ps : List Int) (m : Int), rises m ps = true → ∀ (i : Nat) (hi : i < ps.length), i ≠ 0 → ps.getD (i - 1) 0 < ps[i]
  | [], _, _, i, hi, _ => absurd hi (Nat.not_lt_zero _)
  | p :: ps, m, h, i, hi, h0 => by
    simp only [rises, Bool.and_eq_true, decide_eq_true_eq] at h
    obtain ⟨j, rfl⟩ : ∃ j, i = j + 1 := ⟨i - 1, by omega⟩
    have hj : j < ps.length := by simpa using hi
    rw [List.getElem_cons_succ, Nat.add_sub_cancel]
    by_cases hj0 : j = 0
    · subst hj0
      exact (rises_mem ps p h.2 _ (List.getElem_mem hj)).1
    · have := rises_step ps p h.2 j hj hj0
      obtain ⟨i, rfl⟩ : ∃ i, j = i + 1 := ⟨j - 1, by omega⟩
      rw [Nat.add_sub_cancel] at this
      rw [List.getD_cons_succ]
      exact this
theorem rises_len : ∀ (ps : List Int) (m : Int), m ≤ 61 → rises m ps = true → (ps.length : Int) ≤ 61 - m
  | [], m, hm, _ => by simp; omega
  | p :: ps, m, hm, h => by
    simp only [rises, Bool.and_eq_true, decide_eq_true_eq] at h
    have := rises_len ps p (by omega) h.2
    rw [List.length_cons]
    omega
theorem okS_len {g : Int} {s : ByteArray} {ps : List Int} (h : okS g s ps = true) : ps.length < 1152921504606846976 := by
  have := rises_len ps (-1) (by decide) (okS_parts h).1
  omega
def keyN (s : ByteArray) : List Nat := (keyRow s).map Int.toNat
theorem keyN_length (s : ByteArray) : (keyN s).length = 32 := by rw [keyN, List.length_map, keyRow_length]
theorem keyN_of {s : ByteArray} (h : isKey s = true) : ofN (keyN s) = keyRow s := by
  unfold ofN keyN
  rw [List.map_map]
  conv => rhs; rw [← List.map_id (keyRow s)]
  apply List.map_congr_left
  intro x hx
  have := keyRow_range h x hx
  show Int.ofNat x.toNat = x
  simp only [Int.ofNat_eq_natCast]
  omega
theorem keyN_lt {s : ByteArray} (h : isKey s = true) : ∀ x ∈ keyN s, x < 256 := by
  intro x hx
  obtain ⟨y, hy, rfl⟩ := List.mem_map.1 hx
  have := keyRow_range h y hy
  omega
def bodyV (g : Int) (s : ByteArray) (ps : List Int) : List Nat := [80, 76, 77, 80] ++ (bytes8 g.toNat ++ (keyN s ++ bytes8 (mapOf ps)))
theorem bodyV_length (g : Int) (s : ByteArray) (ps : List Int) : (bodyV g s ps).length = 52 := by
  simp [bodyV, bytes8_length, keyN_length]
theorem bodyV_lt {g : Int} {s : ByteArray} {ps : List Int} (h : isKey s = true) : ∀ x ∈ bodyV g s ps, x < 256 := by
  intro x hx
  rcases List.mem_append.1 hx with hx | hx
  · have : ∀ x ∈ [80, 76, 77, 80], x < 256 := by decide
    exact this x hx
  rcases List.mem_append.1 hx with hx | hx
  · exact bytes8_lt _ x hx
  rcases List.mem_append.1 hx with hx | hx
  · exact keyN_lt h x hx
  · exact bytes8_lt _ x hx
def putV (g : Int) (s : ByteArray) (ps : List Int) : List Nat := CrcA.bytes (bodyV g s ps) ++ List.replicate 200 0
theorem putV_length (g : Int) (s : ByteArray) (ps : List Int) : (putV g s ps).length = 256 := by
  rw [putV, List.length_append, bytes_length, bodyV_length, List.length_replicate]
theorem putV_lt {g : Int} {s : ByteArray} {ps : List Int} (h : isKey s = true) : ∀ x ∈ putV g s ps, x < 256 := by
  intro x hx
  rcases List.mem_append.1 hx with hx | hx
  · exact bytes_lt (bodyV_lt h) x hx
  · have := List.eq_of_mem_replicate hx; omega
theorem putV_form (g : Int) (s : ByteArray) (ps : List Int) : ∃ t : List Nat, putV g s ps = [80, 76, 77, 80] ++ (bytes8 g.toNat ++ (keyN s ++ (bytes8 (mapOf ps) ++ t))) := by
  refine ⟨bytes4 (4294967295 ^^^ F 4294967295 (bodyV g s ps)) ++ List.replicate 200 0, ?_⟩
  unfold putV CrcA.bytes
  generalize bytes4 (4294967295 ^^^ F 4294967295 (bodyV g s ps)) = z
  unfold bodyV
  simp only [List.append_assoc]
def genB (b : List Nat) : List Nat := (b.drop 4).take 8
def keyB (b : List Nat) : List Nat := (b.drop 12).take 32
def mapB (b : List Nat) : List Nat := (b.drop 44).take 8
theorem cuts (g : Int) (s : ByteArray) (ps : List Int) : genB (putV g s ps) = bytes8 g.toNat ∧ keyB (putV g s ps) = keyN s ∧ mapB (putV g s ps) = bytes8 (mapOf ps) := by
  obtain ⟨t, h⟩ := putV_form g s ps
  have l1 := bytes8_length g.toNat
  have l2 := keyN_length s
  have l3 := bytes8_length (mapOf ps)
  generalize bytes8 g.toNat = a at h l1
  generalize keyN s = c at h l2
  generalize bytes8 (mapOf ps) = d at h l3
  unfold genB keyB mapB
  rw [h]
  refine ⟨?_, ?_, ?_⟩
  · show (a ++ (c ++ (d ++ t))).take 8 = a
    exact List.take_left' l1
  · rw [← List.append_assoc, List.drop_left' (by simp [l1]), List.take_left' l2]
  · rw [← List.append_assoc, ← List.append_assoc, List.drop_left' (by simp [l1, l2]), List.take_left' l3]
def decG (b : List Nat) : Int := ((le (genB b) % 9223372036854775808 : Nat) : Int)
def decK (b : List Nat) : ByteArray := hexOf (ofN (keyB b))
def decP (b : List Nat) : List Int := packsAt (le (mapB b))
theorem dec_put {g : Int} {s : ByteArray} {ps : List Int} (h : okS g s ps = true) : decG (putV g s ps) = g ∧ decK (putV g s ps) = s ∧ decP (putV g s ps) = ps := by
  obtain ⟨h1, h2, h3, h4⟩ := okS_parts h
  obtain ⟨c1, c2, c3⟩ := cuts g s ps
  unfold decG decK decP
  rw [c1, c2, c3, keyN_of h4, hexOf_keyRow h4, le_bytes8 (by omega), le_bytes8 (Nat.lt_of_lt_of_le (mapOf_lt ps (fun p hp => by have := rises_mem ps _ h1 p hp; omega)) (by decide)), packsAt_mapOf h1]
  exact ⟨by omega, rfl, rfl⟩
def getV (b : List Nat) : Int × ByteArray × List Int × Int :=
  if b.length = 256 ∧ okS (decG b) (decK b) (decP b) = true ∧ putV (decG b) (decK b) (decP b) = b then (decG b, decK b, decP b, 0) else (0, (⟨#[]⟩ : ByteArray), [], 110)
theorem get_put {g : Int} {s : ByteArray} {ps : List Int} (h : okS g s ps = true) : getV (putV g s ps) = (g, s, ps, 0) := by
  obtain ⟨d1, d2, d3⟩ := dec_put h
  unfold getV
  rw [d1, d2, d3, if_pos ⟨putV_length g s ps, h, rfl⟩]
theorem get_or (b : List Nat) : (∃ g s ps, getV b = (g, s, ps, 0) ∧ okS g s ps = true ∧ putV g s ps = b) ∨ getV b = (0, (⟨#[]⟩ : ByteArray), [], 110) := by
  unfold getV
  split
  · rename_i hc
    exact .inl ⟨_, _, _, rfl, hc.2⟩
  · exact .inr rfl
theorem get_great {b : List Nat} (h : 4611686018427387903 < le (genB b)) (hb : le (genB b) < 18446744073709551616) : getV b = (0, (⟨#[]⟩ : ByteArray), [], 110) := by
  rcases get_or b with ⟨g, s, ps, h1, h2, h3⟩ | h1
  · exfalso
    obtain ⟨_, p2, p3, _⟩ := okS_parts h2
    have c := (cuts g s ps).1
    rw [h3] at c
    rw [c, le_bytes8 (by omega)] at h
    omega
  · exact h1
end Go.Proofs.YtfffnogmkbbfkaaDoor.SupA
