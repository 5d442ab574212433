/- What the printed functions of the layer come to: Size, Put, Bytes, Get, Take, and the document's Put and Bytes. -/
import Derived.Test.YtnlndcidnomioaaDoorLebA
import Derived.Test.YtnlndcidnomioaaDoorU
import Derived.Test.YtnlndcidnomioaaDoorO
import Derived.Test.YtnlndcidnomioaaDoorHx0
import Derived.Test.YtnlndcidnomioaaDoorHx1
import Derived.Test.YtnlndcidnomioaaDoorHx2
namespace Go.Proofs.YtnlndcidnomioaaDoor.LebB
open Go.RowKit Go.Proofs.YtnlndcidnomioaaDoor.Fn Go.Proofs.YtnlndcidnomioaaDoorW.PrintWords Go.Proofs.YtnlndcidnomioaaDoorW.PrintLast Go.Proofs.YtnlndcidnomioaaDoor.U Go.Proofs.YtnlndcidnomioaaDoor.LebA

theorem wu {x : Int} (h0 : 0 ≤ x) (h1 : x < 18446744073709551616) : IntKind.u64.wrap x = x := by rw [IntKind.wrap_u64]; omega
theorem heads_ev : Ev (fun k => palimpsestlaw02_heads.f k) true := Ev.of palimpsestlaw02_heads.mono (k := 60) (by decide +kernel)
theorem heads_bind : Ev (fun k => (palimpsestlaw02_heads.f k).bind fun t => some t) true := Ev.bind heads_ev (Ev.now _)
theorem same_self (l : List Int) : palimpsestref02_Same.f l l = some true := by
  unfold palimpsestref02_Same.f
  simp
theorem size_eq {x : Nat} (hx : x < 18446744073709551616) : leb_Size.f (x : Int) = some ((sz x : Nat) : Int) := by
  unfold leb_Size.f bits_Len64.f
  rw [if_pos (by omega), if_pos (by omega)]
  simp only [Option.bind_some, Int.toNat_natCast]
  have hb := Lib.bitLen_le x 64 (Nat.le_refl _) hx
  unfold sz
  generalize Lib.bitLen x = b at hb ⊢
  have e1 : wrap64 ((b : Int) + 7) = (b : Int) + 7 := w64 (by omega) (by omega)
  have e2 : wrap64 ((b : Int) + 7 - 1) = (b : Int) + 6 := by rw [w64 (by omega) (by omega)]; omega
  have e3 : Int.tdiv ((b : Int) + 6) 7 = (((b + 6) / 7 : Nat) : Int) := by
    rw [Int.tdiv_eq_ediv_of_nonneg (by omega)]
    omega
  rw [e1, e2, e3]
  have e4 : wrap64 (((b + 6) / 7 : Nat) : Int) = (((b + 6) / 7 : Nat) : Int) := w64 (by omega) (by omega)
  rw [e4]
  unfold mx
  congr 1
  split <;> omega
theorem or128 (y : Nat) (h : y < 256) : y ||| 128 = y % 128 + 128 := by
  have : ∀ z : Fin 256, z.val ||| 128 = z.val % 128 + 128 := by decide +kernel
  exact this ⟨y, h⟩
theorem andNot128 (y : Nat) (h : y < 256) : Go.bits .andNot .u8 (y : Int) 128 = ((y % 128 : Nat) : Int) := by
  have e := u8_andNot_nat y 128 h (by decide)
  have e2 : y &&& (255 - 128) = y % 128 := nat_mask7 y
  rw [e2] at e
  exact e
/-! Put -/
theorem put_l0 (x m : Nat) (h1 : 1 ≤ m) (hm : m ≤ 10) (d : Nat) : ∀ i : Nat, i + d = m →
    Ev (fun k => leb_Put.l0 k (x : Int) (ofN (G i x ++ List.replicate d 0)) (m : Int) (i : Int)) (ofN (G (m - 1) x ++ [x / 128 ^ (m - 1) % 128])) := by
  induction d with
  | zero =>
    intro i hi
    have him : i = m := by omega
    subst him
    refine Ev.step (fun k => ?_) (Ev.now _)
    simp only [leb_Put.l0, List.replicate_zero, List.append_nil]
    have hl : (ofN (G i x)).length = i := by rw [ofN_length, G_length]
    have e1 : wrap64 ((i : Int) - 1) = ((i - 1 : Nat) : Int) := by rw [w64 (by omega) (by omega)]; omega
    rw [if_neg (by omega), hl, e1, if_pos (by omega), if_pos (by omega), Int.toNat_natCast]
    obtain ⟨j, rfl⟩ : ∃ j, i = j + 1 := ⟨i - 1, by omega⟩
    rw [Nat.add_sub_cancel, G_snoc]
    have hr : rd (ofN (G j x ++ [x / 128 ^ j % 128 + 128])) (j : Int) = ((x / 128 ^ j % 128 + 128 : Nat) : Int) := rd_at (G j x) [] _ _ (by rw [G_length])
    rw [hr, andNot128 _ (by omega), ofN_set]
    congr 2
    have hs : (G j x ++ [x / 128 ^ j % 128 + 128]).set j ((x / 128 ^ j % 128 + 128) % 128) = G j x ++ [(x / 128 ^ j % 128 + 128) % 128] := by
      rw [List.set_append_right _ _ (by rw [G_length]; omega), G_length, Nat.sub_self]
      rfl
    rw [hs]
    congr 2
    omega
  | succ d ih =>
    intro i hi
    refine Ev.step (fun k => ?_) (ih (i + 1) (by omega))
    simp only [leb_Put.l0]
    have hl : (ofN (G i x ++ List.replicate (d + 1) 0)).length = m := by rw [ofN_length, List.length_append, G_length, List.length_replicate]; omega
    have e7 : wrap64 (7 * (i : Int)) = ((7 * i : Nat) : Int) := by rw [w64 (by omega) (by omega)]; omega
    have ei : wrap64 ((i : Int) + 1) = ((i + 1 : Nat) : Int) := by rw [w64 (by omega) (by omega)]; omega
    rw [if_pos (by omega), e7, if_pos (by omega), if_pos (by omega), hl, if_pos (by omega), ei]
    have hs : shr .u64 (x : Int) ((7 * i : Nat) : Int) = ((x / 128 ^ i : Nat) : Int) := by
      rw [shr_nat .u64 x (7 * i) _ rfl (by show 7 * i ≤ 64; omega), pow7]
    rw [hs]
    have hb : Go.bits .or .u8 (((x / 128 ^ i : Nat) : Int) % 256) 128 = ((x / 128 ^ i % 128 + 128 : Nat) : Int) := by
      have e : ((x / 128 ^ i : Nat) : Int) % 256 = ((x / 128 ^ i % 256 : Nat) : Int) := by omega
      rw [e]
      have e2 := u8_or_nat (x / 128 ^ i % 256) 128 (by omega) (by decide)
      rw [or128 _ (by omega)] at e2
      have e3 : x / 128 ^ i % 256 % 128 = x / 128 ^ i % 128 := by omega
      rw [e3] at e2
      exact e2
    rw [hb, Int.toNat_natCast, ofN_set]
    have he : (G i x ++ List.replicate (d + 1) 0).set i (x / 128 ^ i % 128 + 128) = G (i + 1) x ++ List.replicate d 0 := by
      rw [List.set_append_right _ _ (by rw [G_length]; omega), G_length, Nat.sub_self, List.replicate_succ, List.set_cons_zero, G_snoc, List.append_assoc]
      rfl
    rw [he]
theorem last_digit {m x : Nat} (h : Fit m x) : G (m - 1) x ++ [x / 128 ^ (m - 1) % 128] = D m x := by
  obtain ⟨j, rfl⟩ : ∃ j, m = j + 1 := ⟨m - 1, by have := h.1; omega⟩
  rw [Nat.add_sub_cancel, D_snoc]
  congr 2
  apply Nat.mod_eq_of_lt
  rw [Nat.div_lt_iff_lt_mul (pow_pos' j)]
  have := h.2.1
  rw [Nat.pow_succ, Nat.mul_comm] at this
  exact this
theorem put_ev {x : Nat} (hx : x < 18446744073709551616) : Ev (fun k => leb_Put.f k (x : Int)) (ofN (D (sz x) x)) := by
  have hf := sz_fit hx
  have hs := sz_le hx
  have h1 := hf.1
  rw [← last_digit hf]
  refine Ev.congr (fun k => ?_) (put_l0 x (sz x) h1 hs (sz x) 0 (by omega))
  unfold leb_Put.f
  rw [size_eq hx]
  simp only [Option.bind_some]
  rw [if_pos (by omega), Int.toNat_natCast, if_pos (by omega)]
  have e : (List.replicate (sz x) (0 : Int)) = ofN (G 0 x ++ List.replicate (sz x) 0) := by simp [G, ofN]
  have el : ((List.replicate (sz x) (0 : Int)).length : Int) = ((sz x : Nat) : Int) := by rw [List.length_replicate]
  rw [el, e]
  rfl
/-! Get -/
def c3 (r : Nat × Nat × Nat) : Int × Int × Int := ((r.1 : Int), (r.2.1 : Int), (r.2.2 : Int))
theorem get_l0 (rest : List Nat) : ∀ (pre : List Nat) (a : Nat), pre.length + rest.length ≤ 10 → (∀ c ∈ rest, c < 256) → a < 128 ^ pre.length →
    Ev (fun k => leb_get.l0 k (a : Int) (ofN (pre ++ rest)) ((pre.length + rest.length : Nat) : Int) (pre.length : Int)) (c3 (R rest pre.length a)) := by
  induction rest with
  | nil =>
    intro pre a hl hc ha
    refine Ev.step (fun k => ?_) (Ev.now _)
    simp only [leb_get.l0]
    rw [if_neg (by simp)]
    rfl
  | cons c cs ih =>
    intro pre a hl hc ha
    simp only [List.length_cons] at hl
    have hc0 := hc c (by simp)
    have hlen : (ofN (pre ++ c :: cs)).length = pre.length + (cs.length + 1) := by rw [ofN_length]; simp
    have hr : rd (ofN (pre ++ c :: cs)) (pre.length : Int) = (c : Int) := rd_at pre cs c _ rfl
    generalize hi : pre.length = i at *
    have main : Ev (fun k => leb_get.j1 k (a : Int) (i : Int) (c : Int) (ofN (pre ++ c :: cs)) ((i + (c :: cs).length : Nat) : Int) (i : Int) (decide (i = 9 ∧ 1 < c))) (c3 (R (c :: cs) i a)) := by
      by_cases h9 : i = 9 ∧ 1 < c
      · refine Ev.step (fun k => ?_) (Ev.now _)
        simp only [leb_get.j1, R]
        rw [if_pos h9, if_pos (decide_eq_true h9)]
        rfl
      · have e7 : wrap64 (7 * (i : Int)) = ((7 * i : Nat) : Int) := by rw [w64 (by omega) (by omega)]; omega
        have ei : wrap64 ((i : Int) + 1) = ((i + 1 : Nat) : Int) := by rw [w64 (by omega) (by omega)]; omega
        have hv : c % 128 * 128 ^ i < 18446744073709551616 := by
          rcases Nat.lt_or_ge i 9 with h | h
          · have p1 : 128 ^ i ≤ 128 ^ 8 := Nat.pow_le_pow_right (by decide) (by omega)
            have p2 : c % 128 * 128 ^ i ≤ 127 * 128 ^ 8 := Nat.mul_le_mul (by omega) p1
            have e : 127 * 128 ^ 8 = 9151314442816847872 := by decide
            omega
          · have h9' : i = 9 := by omega
            subst h9'
            have p2 : c % 128 * 128 ^ 9 ≤ 1 * 128 ^ 9 := Nat.mul_le_mul (by omega) (Nat.le_refl _)
            have e : 1 * 128 ^ 9 = 9223372036854775808 := by decide
            omega
        have ha' : a < 18446744073709551616 := by
          have p1 : 128 ^ i ≤ 128 ^ 9 := Nat.pow_le_pow_right (by decide) (by omega)
          have e : 128 ^ 9 = 9223372036854775808 := by decide
          omega
        have hval : Go.bits .or .u64 (a : Int) (shl .u64 (IntKind.u64.wrap (Go.bits .andNot .u8 (c : Int) 128)) ((7 * i : Nat) : Int)) = ((a + c % 128 * 128 ^ i : Nat) : Int) := by
          rw [andNot128 c hc0, wu (by omega) (by omega)]
          have es : shl .u64 ((c % 128 : Nat) : Int) ((7 * i : Nat) : Int) = ((c % 128 * 128 ^ i : Nat) : Int) := by
            unfold shl
            have em : min (((7 * i : Nat) : Int).toNat) (IntKind.u64.bits) = 7 * i := by
              rw [Int.toNat_natCast]; show min (7 * i) 64 = 7 * i; omega
            rw [em]
            have ep : ((c % 128 : Nat) : Int) * 2 ^ (7 * i) = ((c % 128 * 128 ^ i : Nat) : Int) := by rw [← pow7]; simp
            rw [ep, wu (by omega) (by omega)]
          rw [es, u64_or_nat a _ ha' hv]
          congr 1
          rw [Nat.or_comm, ← pow7, nat_join (7 * i) _ a (by simp) (by rw [pow7]; exact ha), Nat.add_comm]
        by_cases h1 : c < 128
        · refine Ev.step (fun k => ?_) (Ev.now _)
          simp only [leb_get.j1, R]
          rw [if_neg h9, if_neg (by simpa using h9), e7, if_pos (by omega), hval, ei, if_pos h1, if_pos (by omega)]
          by_cases h2 : 0 < i ∧ c = 0
          · rw [if_pos h2, if_pos (by omega), if_pos (by omega)]; rfl
          · rw [if_neg h2]
            by_cases h3 : 0 < i
            · rw [if_pos (by omega), if_neg (by omega)]; rfl
            · rw [if_neg (by omega)]; rfl
        · have hn : a + c % 128 * 128 ^ i < 128 ^ (i + 1) := by
            rw [Nat.pow_succ]
            have p : (c % 128 + 1) * 128 ^ i ≤ 128 * 128 ^ i := Nat.mul_le_mul_right _ (by omega)
            rw [Nat.add_mul, Nat.one_mul] at p
            rw [Nat.mul_comm (128 ^ i)]
            omega
          have key := ih (pre ++ [c]) (a + c % 128 * 128 ^ i) (by simp [hi]; omega) (fun d hd => hc d (by simp [hd])) (by rw [List.length_append, hi]; exact hn)
          rw [List.append_assoc, List.length_append, hi] at key
          have eR : R (c :: cs) i a = R cs (i + 1) (a + c % 128 * 128 ^ i) := by
            simp only [R]
            rw [if_neg h9, if_neg h1]
          rw [eR]
          refine Ev.step (fun k => ?_) key
          simp only [leb_get.j1]
          rw [if_neg (by simpa using h9), e7, if_pos (by omega), hval, ei, if_neg (by omega)]
          have en : ((i + (c :: cs).length : Nat) : Int) = ((i + [c].length + cs.length : Nat) : Int) := by simp; omega
          rw [en]
          rfl
    refine Ev.step (fun k => ?_) main
    simp only [leb_get.l0]
    have en : ((i + (c :: cs).length : Nat) : Int) = (i : Int) + (cs.length + 1 : Int) := by simp
    rw [hr, if_pos (by rw [en]; omega), if_pos (by omega), hlen, if_pos (by omega)]
    by_cases h : i = 9
    · rw [if_pos (by omega)]
      congr 1
      simp [h]
      omega
    · rw [if_neg (by omega)]
      congr 1
      simp [h]
theorem get_ev {l : List Nat} (hc : ∀ c ∈ l, c < 256) : Ev (fun k => leb_get.f k (ofN l)) (c3 (R (l.take 10) 0 0)) := by
  have hm : mn ((ofN l).length : Int) 10 = ((min l.length 10 : Nat) : Int) := by
    rw [ofN_length]
    unfold mn
    split <;> omega
  have ht : l.take (min l.length 10) = l.take 10 := by
    rcases Nat.le_total l.length 10 with h | h
    · rw [Nat.min_eq_left h, List.take_length, List.take_of_length_le h]
    · rw [Nat.min_eq_right h]
  have hlen : (l.take 10).length = min l.length 10 := by rw [List.length_take, Nat.min_comm]
  have key := get_l0 (l.take 10) [] 0 (by simp; omega) (fun c h => hc c (List.mem_of_mem_take h)) (by simp)
  refine Ev.congr (fun k => ?_) key
  unfold leb_get.f
  rw [hm, if_pos (by omega), ofN_length, if_pos (by omega), Int.toNat_natCast, ofN_take, ht, ofN_length]
  simp
theorem Get_ev {l : List Nat} (hc : ∀ c ∈ l, c < 256) : Ev (fun k => leb_Get.f k (ofN l)) (c3 (R (l.take 10) 0 0)) := by
  refine Ev.congr (fun k => ?_) (get_ev hc)
  unfold leb_Get.f
  cases leb_get.f k (ofN l) <;> rfl
/-! Take -/
def T (l : List Nat) (lim : Int) : List Nat × Nat × Nat :=
  if (R (l.take 10) 0 0).2.2 ≠ 0 then ([], 0, (R (l.take 10) 0 0).2.2)
  else if lim < 0 ∨ lim < ((R (l.take 10) 0 0).1 : Int) then ([], 0, 2)
  else if l.length - (R (l.take 10) 0 0).2.1 < (R (l.take 10) 0 0).1 then ([], 0, 20)
  else ((l.drop (R (l.take 10) 0 0).2.1).take (R (l.take 10) 0 0).1, (R (l.take 10) 0 0).2.1 + (R (l.take 10) 0 0).1, 0)
theorem take_ev {l : List Nat} (hc : ∀ c ∈ l, c < 256) (hl : l.length ≤ 140737488355000) (lim : Int) (hlim : lim < 9223372036854775808) :
    Ev (fun k => leb_take.f k (ofN l) lim) (ofN (T l lim).1, ((T l lim).2.1 : Int), ((T l lim).2.2 : Int)) := by
  have htop := R_top (l := l.take 10) (by rw [List.length_take]; omega) (fun c h => hc c (List.mem_of_mem_take h))
  have hget := get_ev hc
  unfold T
  generalize R (l.take 10) 0 0 = r at *
  obtain ⟨x, n, e⟩ := r
  have hn : n ≤ l.length ∧ x < 18446744073709551616 := by
    rcases htop with ⟨m, x', h, _, hm, _, hx⟩ | ⟨e', h, _⟩
    · have h1 : x = x' := congrArg (·.1) h
      have h2 : n = m := congrArg (·.2.1) h
      rw [List.length_take] at hm
      exact ⟨by omega, by omega⟩
    · have h1 : x = 0 := congrArg (·.1) h
      have h2 : n = 0 := congrArg (·.2.1) h
      exact ⟨by omega, by omega⟩
  clear htop
  obtain ⟨hn, hx⟩ := hn
  have hdl : (ofN (l.drop n)).length = l.length - n := by rw [ofN_length, List.length_drop]
  simp only [c3] at hget
  have step : ∀ r, Ev (fun k => if 0 ≤ (n : Int) then (if (n : Int) ≤ ((ofN l).length : Int) then (if (e : Int) = 0 then (if lim < 0 then (leb_take.j0 k (x : Int) (n : Int) ((ofN l).drop (n : Int).toNat) true) else (leb_take.j0 k (x : Int) (n : Int) ((ofN l).drop (n : Int).toNat) (decide ((x : Int) > (IntKind.u64.wrap lim))))) else (some (([] : List Int), 0, (e : Int)))) else none) else none) r →
      Ev (fun k => leb_take.f k (ofN l) lim) r := by
    intro r h
    unfold leb_take.f
    exact Ev.bind hget h
  apply step
  by_cases he : e = 0
  case neg =>
    rw [if_pos he]
    refine Ev.congr (fun k => ?_) (Ev.now _)
    rw [if_pos (by omega), if_pos (by rw [ofN_length]; omega), if_neg (by omega)]
    rfl
  subst he
  rw [if_neg (by simp)]
  have ent : ∀ {B : Bool} {r}, (B = decide (lim < 0 ∨ lim < (x : Int))) → Ev (fun k => leb_take.j0 k (x : Int) (n : Int) (ofN (l.drop n)) B) r →
      Ev (fun k => if 0 ≤ (n : Int) then (if (n : Int) ≤ ((ofN l).length : Int) then (if ((0 : Nat) : Int) = 0 then (if lim < 0 then (leb_take.j0 k (x : Int) (n : Int) ((ofN l).drop (n : Int).toNat) true) else (leb_take.j0 k (x : Int) (n : Int) ((ofN l).drop (n : Int).toNat) (decide ((x : Int) > (IntKind.u64.wrap lim))))) else (some (([] : List Int), 0, ((0 : Nat) : Int)))) else none) else none) r := by
    intro B r hB h
    refine Ev.congr (fun k => ?_) h
    rw [if_pos (by omega), if_pos (by rw [ofN_length]; omega), if_pos (show ((0 : Nat) : Int) = 0 from rfl), Int.toNat_natCast, ofN_drop]
    by_cases hlt : lim < 0
    · rw [if_pos hlt, hB]; simp [hlt]
    · rw [if_neg hlt, wu (by omega) (by omega), hB]; simp [hlt]
  by_cases h2 : lim < 0 ∨ lim < (x : Int)
  · rw [if_pos h2]
    refine ent rfl (Ev.step (fun k => ?_) (Ev.now _))
    simp only [leb_take.j0]
    rw [if_pos (decide_eq_true h2)]
    rfl
  rw [if_neg h2]
  refine ent rfl ?_
  have hlen : IntKind.u64.wrap ((ofN (l.drop n)).length : Int) = ((l.length - n : Nat) : Int) := by rw [hdl, wu (by omega) (by omega)]
  by_cases h3 : l.length - n < x
  · rw [if_pos h3]
    refine Ev.step (fun k => ?_) (Ev.now _)
    simp only [leb_take.j0]
    rw [if_neg (by simpa using h2), hlen, if_pos (by omega)]
    rfl
  · rw [if_neg h3]
    refine Ev.step (fun k => ?_) (Ev.now _)
    simp only [leb_take.j0]
    rw [if_neg (by simpa using h2), hlen, if_neg (by omega), if_pos (by omega), hdl, if_pos (by omega), Int.toNat_natCast, ofN_take]
    unfold bytes_Clone.f
    have hcl : (ofN ((l.drop n).take x)).length < 140737488355328 := by rw [ofN_length, List.length_take, List.length_drop]; omega
    rw [if_pos hcl]
    simp only [Option.bind_some]
    have w1 : wrap64 (x : Int) = (x : Int) := w64 (by omega) (by omega)
    have w2 : wrap64 ((n : Int) + (x : Int)) = ((n + x : Nat) : Int) := by rw [w64 (by omega) (by omega)]; omega
    rw [w1, w2]
    rfl
theorem Take_ev {l : List Nat} (hc : ∀ c ∈ l, c < 256) (hl : l.length ≤ 140737488355000) (lim : Int) (hlim : lim < 9223372036854775808) :
    Ev (fun k => leb_Take.f k (ofN l) lim) (ofN (T l lim).1, ((T l lim).2.1 : Int), ((T l lim).2.2 : Int)) := by
  refine Ev.congr (fun k => ?_) (take_ev hc hl lim hlim)
  unfold leb_Take.f
  cases leb_take.f k (ofN l) lim <;> rfl
end Go.Proofs.YtnlndcidnomioaaDoor.LebB
