import Derived.Test.YtjjbofbkpmabbaaShaB
import Derived.Test.YtjjbofbkpmabbaaHx0
import Derived.Test.YtjjbofbkpmabbaaHx5
import Derived.Test.YtjjbofbkpmabbaaHx12
namespace Go.Proofs.Ytjjbofbkpmabbaa.Pure
open Go.RowKit Go.Proofs.Ytjjbofbkpmabbaa.Fn Go.Proofs.YtjjbofbkpmabbaaW.PrintWords Go.Proofs.YtjjbofbkpmabbaaW.PrintLast Go.Proofs.Ytjjbofbkpmabbaa.U
set_option linter.unusedVariables false
set_option linter.unusedSimpArgs false
def bytes8 (n : Int) (i : Nat) : List Int := (List.range i).map fun j => shr .u64 (IntKind.u64.wrap (n * 8)) ((56 - 8 * j : Nat) : Int) % 256
theorem bytes8_succ (n : Int) (i : Nat) : bytes8 n (i + 1) = bytes8 n i ++ [shr .u64 (IntKind.u64.wrap (n * 8)) ((56 - 8 * i : Nat) : Int) % 256] := by
  unfold bytes8; rw [List.range_succ, List.map_append]; rfl
def padV (B : List Int) : List Int := 128 :: List.replicate ((119 - B.length) % 64) 0
def tailV (B : List Int) (n : Int) : List Int := padV B ++ bytes8 n 8
def outV (h : List Int) : List Int := h.flatMap fun x => [x / 16777216 % 256, x / 65536 % 256, x / 256 % 256, x % 256]
theorem outV_length : ∀ h : List Int, (outV h).length = 4 * h.length
  | [] => rfl
  | x :: h => by
    have := outV_length h
    unfold outV at *
    rw [List.flatMap_cons, List.length_append, this]
    simp; omega
theorem outV_take (h : List Int) (i : Nat) (hi : i < h.length) : outV (h.take (i + 1)) = outV (h.take i) ++ [rd h i / 16777216 % 256, rd h i / 65536 % 256, rd h i / 256 % 256, rd h i % 256] := by
  have e : rd h (i : Int) = h[i] := by unfold rd; rw [Int.toNat_natCast, List.getD_eq_getElem?_getD, List.getElem?_eq_getElem hi]; rfl
  rw [List.take_succ_eq_append_getElem hi, e]
  unfold outV
  rw [List.flatMap_append]; rfl
def doneV (H B : List Int) (n : Int) : List Int := outV (eatV kWords (B ++ tailV B n).length H (B ++ tailV B n)).1
theorem bytes8_range (n : Int) (i : Nat) : ∀ x ∈ bytes8 n i, 0 ≤ x ∧ x < 256 := by
  intro x hx
  unfold bytes8 at hx
  obtain ⟨j, _, rfl⟩ := List.mem_map.1 hx
  omega
theorem tailV_range (B : List Int) (n : Int) : ∀ x ∈ tailV B n, 0 ≤ x ∧ x < 256 := by
  intro x hx
  unfold tailV padV at hx
  rw [List.mem_append, List.mem_cons, List.mem_replicate] at hx
  rcases hx with (rfl | ⟨_, rfl⟩) | hx
  · omega
  · omega
  · exact bytes8_range _ _ x hx
theorem outV_range (h : List Int) : ∀ x ∈ outV h, 0 ≤ x ∧ x < 256 := by
  intro x hx
  unfold outV at hx
  obtain ⟨y, _, hx⟩ := List.mem_flatMap.1 hx
  simp only [List.mem_cons, List.not_mem_nil, or_false] at hx
  rcases hx with rfl | rfl | rfl | rfl <;> omega
theorem check_nat {H B : List Int} {n : Int} (h : sha_Check.f H B n = some true) : H.length = 8 ∧ B.length < 64 ∧ IntKind.u64.wrap (B.length : Int) = Int.tmod n 64 := by
  unfold sha_Check.f at h
  by_cases h8 : (H.length : Int) = 8
  · rw [if_pos h8] at h
    by_cases hB : (B.length : Int) < 64
    · rw [if_pos hB] at h
      exact ⟨by omega, by omega, by simpa using h⟩
    · rw [if_neg hB] at h; cases h
  · rw [if_neg h8] at h; cases h
theorem bytes8_length (n : Int) (i : Nat) : (bytes8 n i).length = i := by simp [bytes8]
theorem padV_length (B : List Int) : (padV B).length = 1 + (119 - B.length) % 64 := by simp [padV]; omega
theorem write_some {H B l : List Int} {n : Int} (h : sha_Check.f H B n = some true) (hl : B.length + l.length < 140737488355328) :
    sha_Write.f H B n l = some ((eatV kWords (B ++ l).length H (B ++ l)).1, (eatV kWords (B ++ l).length H (B ++ l)).2, IntKind.u64.wrap (n + IntKind.u64.wrap (l.length : Int))) := by
  unfold sha_Write.f
  rw [h, Option.bind_some, if_pos rfl, if_pos hl]
theorem done_l1 (h : List Int) (hh : h.length = 8) (d : Nat) : ∀ i : Nat, i + d = 8 → Ev (fun k => sha_Done.l1 k (outV (h.take i)) h (h.length : Int) (i : Int)) (outV h) := by
  induction d with
  | zero =>
    intro i hi
    obtain rfl : i = 8 := by omega
    refine Ev.step (fun k => ?_) (Ev.now _)
    simp only [sha_Done.l1]
    rw [if_neg (by omega), List.take_of_length_le (by omega)]
  | succ d ih =>
    intro i hi
    refine Ev.step (fun k => ?_) (ih (i + 1) (by omega))
    have ei : wrap64 ((i : Int) + 1) = ((i + 1 : Nat) : Int) := by rw [w64 (by omega) (by omega)]; omega
    simp only [sha_Done.l1]
    rw [if_pos (by omega), if_pos (by omega), if_pos (by omega), Option.bind_some, if_pos (by rw [outV_length, List.length_take]; simp; omega), ei, outV_take h i (by omega)]
theorem done_l0 (H B p : List Int) (n : Int) (hp : p.length ≤ 65) (r : List Int) (Hr : Ev (fun k => (sha_Write.f H B n (p ++ bytes8 n 8)).bind fun bt => sha_Done.l1 k ([] : List Int) bt.1 (bt.1.length : Int) 0) r) (d : Nat) : ∀ i : Nat, i + d = 8 →
    Ev (fun k => sha_Done.l0 k (p ++ bytes8 n i) (i : Int) H B n) r := by
  induction d with
  | zero =>
    intro i hi
    obtain rfl : i = 8 := by omega
    refine Ev.step (fun k => ?_) Hr
    simp only [sha_Done.l0]
    rw [if_neg (by decide)]
  | succ d ih =>
    intro i hi
    refine Ev.step (fun k => ?_) (ih (i + 1) (by omega))
    have ei : wrap64 ((i : Int) + 1) = ((i + 1 : Nat) : Int) := by rw [w64 (by omega) (by omega)]; omega
    have e8 : wrap64 (8 * (i : Int)) = 8 * i := w64 (by omega) (by omega)
    have e56 : wrap64 (56 - (8 * (i : Int))) = ((56 - 8 * i : Nat) : Int) := by rw [w64 (by omega) (by omega)]; omega
    simp only [sha_Done.l0]
    rw [if_pos (by omega), e8, e56, if_pos (by omega), if_pos (by rw [List.length_append, bytes8_length]; omega), ei, bytes8_succ, List.append_assoc]
theorem shaDone_ev (H B : List Int) (n : Int) (h : sha_Check.f H B n = some true) : Ev (fun k => sha_Done.f k H B n) (doneV H B n) := by
  obtain ⟨h8, hB, _⟩ := check_nat h
  have hlen : B.length + (tailV B n).length < 140737488355328 := by unfold tailV; rw [List.length_append, bytes8_length, padV_length]; omega
  have hw := write_some h hlen
  have hl := (eatV_length kWords (B ++ tailV B n).length H (B ++ tailV B n) h8 (Nat.le_refl _)).1
  have hz : (119 - (B.length : Int)).tmod 64 = (((119 - B.length) % 64 : Nat) : Int) := by rw [Int.tmod_eq_emod_of_nonneg (by omega)]; omega
  have e1 : wrap64 (119 - (B.length : Int)) = 119 - (B.length : Int) := w64 (by omega) (by omega)
  have e2 : wrap64 (1 + (((119 - B.length) % 64 : Nat) : Int)) = ((1 + (119 - B.length) % 64 : Nat) : Int) := by rw [w64 (by omega) (by omega)]; omega
  have e3 : (List.replicate (1 + (119 - B.length) % 64) (0 : Int)).set 0 128 = padV B ++ bytes8 n 0 := by
    rw [show bytes8 n 0 = [] from rfl, List.append_nil, Nat.add_comm, List.replicate_succ]; rfl
  have hdn : doneV H B n = outV (eatV kWords (B ++ tailV B n).length H (B ++ tailV B n)).1 := rfl
  rw [hdn]
  clear hdn
  generalize eatV kWords (B ++ tailV B n).length H (B ++ tailV B n) = E at *
  have hd := done_l1 E.1 hl 8 0 rfl
  rw [List.take_zero, show outV [] = [] from rfl] at hd
  have hw2 : Ev (fun k => (sha_Write.f H B n (padV B ++ bytes8 n 8)).bind fun bt => sha_Done.l1 k ([] : List Int) bt.1 (bt.1.length : Int) 0) (outV E.1) := by
    refine Ev.congr (fun k => ?_) hd
    rw [show padV B ++ bytes8 n 8 = tailV B n from rfl, hw, Option.bind_some, Int.natCast_zero]
  have hm := done_l0 H B (padV B) n (by rw [padV_length]; omega) (outV E.1) hw2 8 0 rfl
  rw [Int.natCast_zero] at hm
  refine Ev.congr (fun k => ?_) hm
  unfold sha_Done.f
  rw [h, Option.bind_some, if_pos rfl, e1, hz, e2, if_pos (by omega), if_pos (by omega), Option.bind_some, Int.toNat_natCast, if_pos (by rw [List.length_replicate]; omega), show ((0 : Int).toNat) = 0 from rfl, e3]
theorem rdone_l2 (h y : List Int) (z : Int) (hh : h.length = 8) (d : Nat) : ∀ i : Nat, i + d = 8 → Ev (fun k => q04_Done.l2 k (outV (h.take i)) (i : Int) h y z) (outV h) := by
  induction d with
  | zero =>
    intro i hi
    obtain rfl : i = 8 := by omega
    refine Ev.step (fun k => ?_) (Ev.now _)
    simp only [q04_Done.l2]
    rw [if_neg (by decide), List.take_of_length_le (by omega)]
  | succ d ih =>
    intro i hi
    refine Ev.step (fun k => ?_) (ih (i + 1) (by omega))
    have ei : wrap64 ((i : Int) + 1) = ((i + 1 : Nat) : Int) := by rw [w64 (by omega) (by omega)]; omega
    simp only [q04_Done.l2]
    rw [if_pos (by omega), if_pos (by omega), if_pos (by omega), Option.bind_some, if_pos (by rw [outV_length, List.length_take]; simp; omega), ei, outV_take h i (by omega)]
theorem rdone_l1 (H B p : List Int) (n : Int) (hp : p.length ≤ 65) (r : List Int) (Hr : Ev (fun k => (q04_Write.f k H B n (p ++ bytes8 n 8)).bind fun bt => q04_Done.l2 k ([] : List Int) 0 bt.1 bt.2.1 bt.2.2) r) (d : Nat) : ∀ i : Nat, i + d = 8 →
    Ev (fun k => q04_Done.l1 k (p ++ bytes8 n i) (IntKind.u64.wrap (n * 8)) (7 - (i : Int)) H B n) r := by
  induction d with
  | zero =>
    intro i hi
    obtain rfl : i = 8 := by omega
    refine Ev.step (fun k => ?_) Hr
    simp only [q04_Done.l1]
    rw [if_neg (by decide)]
  | succ d ih =>
    intro i hi
    refine Ev.step (fun k => ?_) (ih (i + 1) (by omega))
    have ei : wrap64 ((7 - (i : Int)) - 1) = 7 - ((i + 1 : Nat) : Int) := by rw [w64 (by omega) (by omega)]; omega
    have e8 : IntKind.u64.wrap (wrap64 (8 * (7 - (i : Int)))) = ((56 - 8 * i : Nat) : Int) := by rw [w64 (by omega) (by omega), IntKind.wrap_u64]; omega
    simp only [q04_Done.l1]
    rw [if_pos (by omega), e8, if_pos (by omega), if_pos (by rw [List.length_append, bytes8_length]; omega), ei, bytes8_succ, List.append_assoc]
theorem rdone_l0 (H B : List Int) (n : Int) (hB : B.length < 64) (r : List Int) (Hr : Ev (fun k => q04_Done.l1 k (padV B) (IntKind.u64.wrap (n * 8)) 7 H B n) r) (d : Nat) : ∀ i : Nat, i + d = (119 - B.length) % 64 →
    Ev (fun k => q04_Done.l0 k (128 :: List.replicate i 0) H B n) r := by
  induction d with
  | zero =>
    intro i hi
    obtain rfl : i = (119 - B.length) % 64 := by omega
    refine Ev.step (fun k => ?_) Hr
    simp only [q04_Done.l0]
    have e1 : wrap64 ((B.length : Int) + ((128 :: List.replicate ((119 - B.length) % 64) (0 : Int)).length : Int)) = (B.length : Int) + 1 + ((119 - B.length) % 64 : Nat) := by
      rw [List.length_cons, List.length_replicate, w64 (by omega) (by omega)]; omega
    rw [e1, if_pos (by rw [Int.tmod_eq_emod_of_nonneg (by omega)]; omega)]; rfl
  | succ d ih =>
    intro i hi
    refine Ev.step (fun k => ?_) (ih (i + 1) (by omega))
    have e1 : wrap64 ((B.length : Int) + ((128 :: List.replicate i (0 : Int)).length : Int)) = (B.length : Int) + 1 + i := by
      rw [List.length_cons, List.length_replicate, w64 (by omega) (by omega)]; omega
    have e2 : (128 :: List.replicate i (0 : Int)) ++ [0] = 128 :: List.replicate (i + 1) 0 := by rw [List.replicate_succ', List.cons_append]
    simp only [q04_Done.l0]
    rw [e1, if_neg (by rw [Int.tmod_eq_emod_of_nonneg (by omega)]; omega), if_pos (by rw [List.length_cons, List.length_replicate]; omega), e2]
theorem refDone_ev (H B : List Int) (n : Int) (hW : Ws H) (hBW : Ws B) (h : sha_Check.f H B n = some true) : Ev (fun k => q04_Done.f k H B n) (doneV H B n) := by
  obtain ⟨h8, hB, _⟩ := check_nat h
  have hlen : B.length + (tailV B n).length < 140737488355328 := by unfold tailV; rw [List.length_append, bytes8_length, padV_length]; omega
  have hw := refWrite_ev H B (tailV B n) n hW hBW (fun x hx => by have := tailV_range B n x hx; exact ⟨this.1, by omega⟩) (write_some h hlen)
  have hl := (eatV_length kWords (B ++ tailV B n).length H (B ++ tailV B n) h8 (Nat.le_refl _)).1
  have hdn : doneV H B n = outV (eatV kWords (B ++ tailV B n).length H (B ++ tailV B n)).1 := rfl
  rw [hdn]
  clear hdn
  generalize eatV kWords (B ++ tailV B n).length H (B ++ tailV B n) = E at *
  have hd := rdone_l2 E.1 E.2 (IntKind.u64.wrap (n + IntKind.u64.wrap ((tailV B n).length : Int))) hl 8 0 rfl
  rw [List.take_zero, show outV [] = [] from rfl, Int.natCast_zero] at hd
  have h1 := rdone_l1 H B (padV B) n (by rw [padV_length]; omega) (outV E.1) (Ev.bind (f := fun k bt => q04_Done.l2 k ([] : List Int) 0 bt.1 bt.2.1 bt.2.2) (a := (E.1, E.2, IntKind.u64.wrap (n + IntKind.u64.wrap ((tailV B n).length : Int)))) hw hd) 8 0 rfl
  rw [show bytes8 n 0 = [] from rfl, List.append_nil, Int.natCast_zero, Int.sub_zero] at h1
  have h0 := rdone_l0 H B n hB _ h1 ((119 - B.length) % 64) 0 (by omega)
  refine Ev.congr (fun k => ?_) h0
  unfold q04_Done.f
  rw [show q04_Check.f H B n = some true from h, Option.bind_some, if_pos rfl]; rfl
def iniV : List Int := [1779033703, 3144134277, 1013904242, 2773480762, 1359893119, 2600822924, 528734635, 1541459225]
set_option maxRecDepth 100000 in
theorem new_ev : Ev (fun k => sha_New.f k) (iniV, ([] : List Int), (0 : Int)) := Ev.of sha_New.mono (k := 100) (by decide +kernel)
theorem Ev.succ {α : Type} {g : Nat → Option α} {r : α} (h : Ev (fun k => g (k + 1)) r) : Ev g r := Ev.step (fun _ => rfl) h
theorem check_ini : sha_Check.f iniV [] 0 = some true := by decide
theorem iniV_Ws : Ws iniV := by unfold Ws W32; decide
theorem wrap_u64 {x : Int} (h0 : 0 ≤ x) (h1 : x < 18446744073709551616) : IntKind.u64.wrap x = x := by rw [IntKind.wrap_u64]; omega
theorem check_write {H B l : List Int} {n : Int} (h : sha_Check.f H B n = some true) (h0 : 0 ≤ n) (hl : B.length + l.length < 140737488355328) :
    sha_Check.f (eatV kWords (B ++ l).length H (B ++ l)).1 (eatV kWords (B ++ l).length H (B ++ l)).2 (IntKind.u64.wrap (n + IntKind.u64.wrap (l.length : Int))) = some true := by
  obtain ⟨h8, hB, hn⟩ := check_nat h
  obtain ⟨e1, e2⟩ := eatV_length kWords (B ++ l).length H (B ++ l) h8 (Nat.le_refl _)
  rw [wrap_u64 (by omega) (by omega), Int.tmod_eq_emod_of_nonneg h0] at hn
  have e3 : IntKind.u64.wrap (n + IntKind.u64.wrap (l.length : Int)) = (n + l.length) % 18446744073709551616 := by rw [wrap_u64 (x := (l.length : Int)) (by omega) (by omega), IntKind.wrap_u64]
  unfold sha_Check.f
  rw [if_pos (by omega), if_pos (by rw [e2]; omega), e3, e2, wrap_u64 (by omega) (by omega), Int.tmod_eq_emod_of_nonneg (by omega), List.length_append]
  congr 1
  rw [beq_iff_eq]
  omega
end Go.Proofs.Ytjjbofbkpmabbaa.Pure
