import Derived.Test.YtjjbofbkpmabbaaShaA
import Derived.Test.YtjjbofbkpmabbaaHx0
import Derived.Test.YtjjbofbkpmabbaaHx1
import Derived.Test.YtjjbofbkpmabbaaHx4
import Derived.Test.YtjjbofbkpmabbaaHx9
import Derived.Test.YtjjbofbkpmabbaaHx10
import Derived.Test.YtjjbofbkpmabbaaHx11
namespace Go.Proofs.Ytjjbofbkpmabbaa.Pure
open Go.RowKit Go.Proofs.Ytjjbofbkpmabbaa.Fn Go.Proofs.YtjjbofbkpmabbaaW.PrintWords Go.Proofs.YtjjbofbkpmabbaaW.PrintLast Go.Proofs.Ytjjbofbkpmabbaa.U
set_option linter.unusedVariables false
set_option linter.unusedSimpArgs false
theorem into_l0 (h b : List Int) (hb : b.length = 64) (hbW : Ws b) (hh : h.length = 8) (r : List Int) (H : Ev (fun k => q04_into.l1 k h (schedW b 64) kWords h 0) r) (d : Nat) : ∀ i : Nat, i + d = 64 →
    Ev (fun k => q04_into.l0 k h b (schedW b i) (i : Int)) r := by
  induction d with
  | zero =>
    intro i hi
    obtain rfl : i = 64 := by omega
    refine Ev.step (fun k => ?_) H
    simp only [q04_into.l0]
    rw [if_neg (by decide)]
    show (some _).bind _ = _
    rw [Option.bind_some, Option.bind_some, if_pos (by rw [hh]; decide)]; rfl
  | succ d ih =>
    intro i hi
    have hl := schedW_length b i
    refine Ev.step (fun k => ?_) (ih (i + 1) (by omega))
    simp only [q04_into.l0]
    have ei : wrap64 ((i : Int) + 1) = ((i + 1 : Nat) : Int) := by rw [w64 (by omega) (by omega)]; omega
    rw [if_pos (show (i : Int) < 64 by omega), ei]
    by_cases h16 : (i : Int) < 16
    · have e0 : wrap64 (4 * (i : Int)) = 4 * i := w64 (by omega) (by omega)
      have e1 : wrap64 (4 * (i : Int) + 1) = 4 * i + 1 := w64 (by omega) (by omega)
      have e2 : wrap64 (4 * (i : Int) + 2) = 4 * i + 2 := w64 (by omega) (by omega)
      have e3 : wrap64 (4 * (i : Int) + 3) = 4 * i + 3 := w64 (by omega) (by omega)
      rw [if_pos h16, e0, e1, e2, e3, if_pos (by omega), if_pos (by omega), if_pos (by omega), if_pos (by omega), if_pos (by omega), if_pos (by omega), if_pos (by omega), if_pos (by omega), if_pos (by omega), schedW, nextW, if_pos h16]
    · have e0 : wrap64 ((i : Int) - 15) = i - 15 := w64 (by omega) (by omega)
      have e1 : wrap64 ((i : Int) - 2) = i - 2 := w64 (by omega) (by omega)
      have e2 : wrap64 ((i : Int) - 16) = i - 16 := w64 (by omega) (by omega)
      have e3 : wrap64 ((i : Int) - 7) = i - 7 := w64 (by omega) (by omega)
      have hW := schedW_Ws hbW i
      rw [if_neg h16, e0, e1, e2, e3, if_pos (by omega), if_pos (by omega), if_pos (by omega), if_pos (by omega), r7 (hW.rd _), Option.bind_some, r18 (hW.rd _), Option.bind_some, r17 (hW.rd _), Option.bind_some, r19 (hW.rd _), Option.bind_some, if_pos (by omega), if_pos (by omega), if_pos (by omega), if_pos (by omega), if_pos (by omega), small_r (hW.rd _), great_r (hW.rd _), schedW, nextW, if_neg h16]
def mixV (h v : List Int) (i : Nat) : List Int := (List.range 8).map fun j => if j < i then (rd v j + rd h j) % 4294967296 else rd v j
theorem mixV_length (h v : List Int) (i : Nat) : (mixV h v i).length = 8 := by simp [mixV]
theorem mixV_get (h v : List Int) (i j : Nat) (hj : j < 8) : (mixV h v i)[j]? = some (if j < i then (rd v j + rd h j) % 4294967296 else rd v j) := by simp [mixV, hj]
theorem mixV_zero (h v : List Int) (hv : v.length = 8) : mixV h v 0 = v := by
  apply List.ext_getElem?; intro j
  by_cases hj : j < 8
  · rw [mixV_get h v 0 j hj, if_neg (by omega), List.getElem?_eq_getElem (by omega)]
    simp [rd, hv, hj]
  · rw [List.getElem?_eq_none (by rw [mixV_length]; omega), List.getElem?_eq_none (by omega)]
theorem mixV_rd (h v : List Int) (i : Nat) (hi : i < 8) : rd (mixV h v i) (i : Int) = rd v i := by
  unfold rd
  rw [List.getD_eq_getElem?_getD, Int.toNat_natCast, mixV_get h v i i hi, if_neg (by omega)]; rfl
theorem mixV_set (h v : List Int) (i : Nat) : (mixV h v i).set i ((rd v i + rd h i) % 4294967296) = mixV h v (i + 1) := by
  apply List.ext_getElem?; intro j
  by_cases hj : j < 8
  · rw [List.getElem?_set, mixV_length, mixV_get h v _ j hj, mixV_get h v _ j hj]
    by_cases e : i = j
    · subst e; rw [if_pos rfl, if_pos hj, if_pos (by omega)]
    · rw [if_neg e]; congr 1
      by_cases e2 : j < i
      · rw [if_pos e2, if_pos (by omega)]
      · rw [if_neg e2, if_neg (by omega)]
  · rw [List.getElem?_eq_none (by rw [List.length_set, mixV_length]; omega), List.getElem?_eq_none (by rw [mixV_length]; omega)]
theorem mixV_all (h v : List Int) : mixV h v 8 = sumV h v 8 := by
  unfold mixV sumV
  apply List.map_congr_left
  intro j hj
  have : j < 8 := by simpa using hj
  rw [if_pos this, if_pos this, Int.add_comm]
theorem into_l2 (h v : List Int) (hh : h.length = 8) (d : Nat) : ∀ i : Nat, i + d = 8 → Ev (fun k => q04_into.l2 k h (mixV h v i) (i : Int)) (sumV h v 8) := by
  induction d with
  | zero =>
    intro i hi
    obtain rfl : i = 8 := by omega
    refine Ev.step (fun k => ?_) (Ev.now _)
    simp only [q04_into.l2]
    rw [if_neg (by decide), mixV_all]
  | succ d ih =>
    intro i hi
    refine Ev.step (fun k => ?_) (ih (i + 1) (by omega))
    simp only [q04_into.l2]
    have ei : wrap64 ((i : Int) + 1) = ((i + 1 : Nat) : Int) := by rw [w64 (by omega) (by omega)]; omega
    rw [if_pos (by omega), if_pos (by omega), if_pos (by rw [mixV_length]; omega), if_pos (by omega), ei, mixV_rd h v i (by omega), Int.toNat_natCast, mixV_set h v i]
theorem into_l1 (h ws : List Int) (hh : h.length = 8) (hW : Ws h) (hw : ws.length = 64) (d : Nat) : ∀ i : Nat, i + d = 64 →
    Ev (fun k => q04_into.l1 k h ws kWords (roundsV h kWords ws i) (i : Int)) (sumV h (roundsV h kWords ws 64) 8) := by
  induction d with
  | zero =>
    intro i hi
    obtain rfl : i = 64 := by omega
    refine Ev.step (fun k => ?_) (by have := into_l2 h (roundsV h kWords ws 64) hh 8 0 rfl; rw [mixV_zero _ _ (roundsV_length _ _ _ hh _)] at this; exact this)
    simp only [q04_into.l1]
    rw [if_neg (by decide)]; rfl
  | succ d ih =>
    intro i hi
    refine Ev.step (fun k => ?_) (ih (i + 1) (by omega))
    have hl := roundsV_length h kWords ws hh i
    have hV := roundsV_Ws (kk := kWords) (ws := ws) hW i
    have hk : kWords.length = 64 := rfl
    simp only [q04_into.l1]
    have ei : wrap64 ((i : Int) + 1) = ((i + 1 : Nat) : Int) := by rw [w64 (by omega) (by omega)]; omega
    rw [roundsV]
    generalize roundsV h kWords ws i = v at *
    rw [if_pos (by omega), if_pos (by omega), if_pos (by omega), if_pos (by omega), if_pos (by omega), if_pos (by omega), if_pos (by omega), if_pos (by omega), r6 (hV.rd _), Option.bind_some, r11 (hV.rd _), Option.bind_some, r25 (hV.rd _), Option.bind_some, if_pos (by omega), if_pos (by omega), if_pos (by omega), r2 (hV.rd _), Option.bind_some, r13 (hV.rd _), Option.bind_some, r22 (hV.rd _), Option.bind_some, if_pos (by omega), ei, andNot_r (hV.rd _) (hV.rd _)]
    rfl
theorem into_ev (h b : List Int) (hh : h.length = 8) (hW : Ws h) (hb : b.length = 64) (hbW : Ws b) : Ev (fun k => q04_into.f k h b) (blockV h kWords b) :=
  into_l0 h b hb hbW hh _ (into_l1 h (schedW b 64) hh hW (schedW_length _ _) 64 0 rfl) 64 0 rfl
theorem eatV_stop (kk h all : List Int) (n : Nat) (hn : ¬ 64 ≤ all.length) : eatV kk n h all = (h, all) := by
  cases n with
  | zero => rfl
  | succ n => rw [eatV, if_neg hn]
theorem write_l0 (l1 H0 B0 all : List Int) (n0 : Int) (hA : Ws all) (hall : all.length < 140737488355328) (f : Nat) : ∀ (h : List Int) (p : Nat), Ws h → h.length = 8 → p ≤ all.length → all.length ≤ p + f →
    Ev (fun k => q04_Write.l0 k l1 h all (p : Int) H0 B0 n0) ((eatV kWords f h (all.drop p)).1, (eatV kWords f h (all.drop p)).2, IntKind.u64.wrap (n0 + IntKind.u64.wrap (l1.length : Int))) := by
  induction f with
  | zero =>
    intro h p hW hh hp hf
    refine Ev.step (fun k => ?_) (Ev.now _)
    simp only [q04_Write.l0]
    have e0 : wrap64 ((all.length : Int) - p) = (all.length : Int) - p := w64 (by omega) (by omega)
    rw [e0, if_neg (by omega), Option.bind_some, if_pos (by omega), if_pos (by omega), Option.bind_some, if_pos (by simp; omega), Int.toNat_natCast]; rfl
  | succ f ih =>
    intro h p hW hh hp hf
    have e0 : wrap64 ((all.length : Int) - p) = (all.length : Int) - p := w64 (by omega) (by omega)
    by_cases h64 : p + 64 ≤ all.length
    · have e1 : wrap64 ((p : Int) + 64) = ((p + 64 : Nat) : Int) := by rw [w64 (by omega) (by omega)]; omega
      have hlen : ((all.take (p + 64)).drop p).length = 64 := by rw [List.length_drop, List.length_take]; omega
      have hs : (all.take (p + 64)).drop p = (all.drop p).take 64 := by rw [List.drop_take]; congr 1; omega
      have hin := into_ev h ((all.take (p + 64)).drop p) hh hW hlen (fun x hx => hA x (List.mem_of_mem_take (List.mem_of_mem_drop hx)))
      have hrec := ih (blockV h kWords ((all.take (p + 64)).drop p)) (p + 64) (blockV_Ws hW) (blockV_length _ _ _) h64 (by omega)
      have key : eatV kWords (f + 1) h (all.drop p) = eatV kWords f (blockV h kWords ((all.take (p + 64)).drop p)) (all.drop (p + 64)) := by
        rw [eatV, if_pos (by rw [List.length_drop]; omega), hs, List.drop_drop]
      rw [key]
      refine Ev.step (fun k => ?_) (Ev.bind (f := fun k t => q04_Write.l0 k l1 t all ((p + 64 : Nat) : Int) H0 B0 n0) hin hrec)
      · simp only [q04_Write.l0]
        rw [e0, e1, if_pos (by omega), if_pos (by omega), if_pos (by omega), if_pos (by omega), Int.toNat_natCast, Int.toNat_natCast]
    · refine Ev.step (fun k => ?_) (Ev.now _)
      simp only [q04_Write.l0]
      rw [e0, if_neg (by omega), Option.bind_some, if_pos (by omega), if_pos (by omega), Option.bind_some, if_pos (by simp; omega), Int.toNat_natCast, eatV_stop _ _ _ _ (by rw [List.length_drop]; omega)]; rfl
theorem refWrite_ev (H B l : List Int) (n : Int) (hW : Ws H) (hB : Ws B) (hl : Ws l) {r : List Int × List Int × Int} (h : sha_Write.f H B n l = some r) : Ev (fun k => q04_Write.f k H B n l) r := by
  unfold sha_Write.f at h
  replace h := Option.bind_eq_some_iff.mp h
  obtain ⟨t, ht, h⟩ := h
  have ht' : q04_Check.f H B n = some t := ht
  cases t with
  | false =>
    rw [if_neg (by decide)] at h
    refine Ev.congr (fun k => ?_) (Ev.now r)
    unfold q04_Write.f
    rw [ht', Option.bind_some, if_neg (by decide), h]
  | true =>
    rw [if_pos rfl] at h
    by_cases hlen : B.length + l.length < 140737488355328
    · rw [if_pos hlen] at h
      have h8 := sha_Check_len ht
      have hw := write_l0 l H B (B ++ l) n (fun x hx => (List.mem_append.1 hx).elim (hB x) (hl x)) (by rw [List.length_append]; exact hlen) (B ++ l).length H 0 hW h8 (Nat.zero_le _) (by omega)
      rw [List.drop_zero] at hw
      rw [← Option.some.inj h]
      refine Ev.congr (fun k => ?_) hw
      unfold q04_Write.f
      rw [ht', Option.bind_some, if_pos rfl, Option.bind_some, if_pos (by simp; omega), Option.bind_some, if_pos (by simp; omega), Option.bind_some, if_pos (by simp; omega)]; rfl
    · rw [if_neg hlen] at h; cases h
theorem eatV_Ws (kk : List Int) : ∀ (n : Nat) (h all : List Int), Ws h → Ws all → Ws (eatV kk n h all).1 ∧ Ws (eatV kk n h all).2
  | 0, h, all, hh, ha => ⟨hh, ha⟩
  | n + 1, h, all, hh, ha => by
    rw [eatV]
    split
    · exact eatV_Ws kk n _ _ (blockV_Ws hh) (fun x hx => ha x (List.mem_of_mem_drop hx))
    · exact ⟨hh, ha⟩
theorem eatV_length (kk : List Int) : ∀ (n : Nat) (h all : List Int), h.length = 8 → all.length ≤ n → (eatV kk n h all).1.length = 8 ∧ (eatV kk n h all).2.length = all.length % 64
  | 0, h, all, hh, ha => ⟨hh, by show all.length = _; omega⟩
  | n + 1, h, all, hh, ha => by
    rw [eatV]
    split
    · obtain ⟨h1, h2⟩ := eatV_length kk n (blockV h kk (all.take 64)) (all.drop 64) (blockV_length _ _ _) (by rw [List.length_drop]; omega)
      exact ⟨h1, by rw [h2, List.length_drop]; omega⟩
    · exact ⟨hh, by show all.length = _; omega⟩
end Go.Proofs.Ytjjbofbkpmabbaa.Pure
