import Derived.Test.YtjjbofbkpmabbaaRabB
import Derived.Test.YtjjbofbkpmabbaaKeyF
import Derived.Test.YtjjbofbkpmabbaaHx0
import Derived.Test.YtjjbofbkpmabbaaHx1
import Derived.Test.YtjjbofbkpmabbaaHx2
import Derived.Test.YtjjbofbkpmabbaaHx8
import Derived.Test.YtjjbofbkpmabbaaHx9
import Derived.Test.YtjjbofbkpmabbaaHx12
namespace Go.Proofs.Ytjjbofbkpmabbaa.RabC
open Go.RowKit Go.Proofs.Ytjjbofbkpmabbaa.Fn Go.Proofs.YtjjbofbkpmabbaaW.PrintWords Go.Proofs.YtjjbofbkpmabbaaW.PrintLast Go.Proofs.Ytjjbofbkpmabbaa.U Go.Proofs.Ytjjbofbkpmabbaa.RabA Go.Proofs.Ytjjbofbkpmabbaa.RabB
set_option linter.unusedVariables false
set_option linter.unusedSimpArgs false
def Win (l : List Nat) (n : Nat) : Nat := W 0 ((l.take n).drop (n - 16))
theorem win_lt (l : List Nat) (hl : ∀ b ∈ l, b < 256) (n : Nat) : Win l n < 2 ^ 31 :=
  W_lt _ (by decide) (fun b hb => hl b (List.mem_of_mem_take (List.mem_of_mem_drop hb)))
theorem win_roll (l : List Nat) (hl : ∀ b ∈ l, b < 256) (n : Nat) (hn : 16 ≤ n) (h : n < l.length) : P (Win l n) l[n] ^^^ W (l[n - 16]'(by omega)) (List.replicate 16 0) = Win l (n + 1) := by
  have h0 : n - 16 < (l.take n).length := by rw [List.length_take]; omega
  have e0 : (l.take n).drop (n - 16) = (l[n - 16]'(by omega)) :: (l.take n).drop (n - 16 + 1) := by
    rw [List.drop_eq_getElem_cons h0]
    congr 1
    exact List.getElem_take
  have e1 : (l.take (n + 1)).drop (n + 1 - 16) = (l.take n).drop (n - 16 + 1) ++ [l[n]] := by
    rw [show n + 1 - 16 = n - 16 + 1 by omega, List.take_succ_eq_append_getElem h, List.drop_append_of_le_length (by rw [List.length_take]; omega)]
  have hs : ((l.take n).drop (n - 16 + 1)).length = 15 := by rw [List.length_drop, List.length_take]; omega
  have hr := roll (l[n - 16]'(by omega)) l[n] ((l.take n).drop (n - 16 + 1)) (hl _ (List.getElem_mem _))
  rw [hs] at hr
  unfold Win
  rw [e0, e1]
  exact hr
def firstN (l : List Nat) : Nat → Nat → Nat
  | 0, n => n
  | d + 1, n => if Win l n % 1024 = 1023 then n else firstN l d (n + 1)
def firstV (l : List Nat) : Nat := if l.length ≤ 512 then l.length else firstN l (min l.length 2048 - 512) 512
theorem firstN_le (l : List Nat) (d : Nat) : ∀ n, n ≤ firstN l d n ∧ firstN l d n ≤ n + d := by
  induction d with
  | zero => intro n; simp [firstN]
  | succ d ih =>
    intro n
    simp only [firstN]
    split
    · omega
    · have := ih (n + 1); omega
theorem firstV_le (l : List Nat) : firstV l ≤ l.length := by
  unfold firstV
  split
  · omega
  · have := firstN_le l (min l.length 2048 - 512) 512; omega
theorem firstV_pos {l : List Nat} (h : l ≠ []) : 1 ≤ firstV l := by
  have hp : 0 < l.length := List.length_pos_iff.2 h
  unfold firstV
  split
  · omega
  · have := firstN_le l (min l.length 2048 - 512) 512; omega
theorem rdN (l : List Nat) (i : Nat) (h : i < l.length) : rd (ofN l) (i : Int) = ((l[i] : Nat) : Int) := by
  rw [rd_ofN, Int.toNat_natCast]; simp [h]
theorem and1023 {x : Nat} (h : x < 2 ^ 31) : Go.bits .and .u64 (x : Int) 1023 = ((x % 1024 : Nat) : Int) := by
  have h' : x < 2147483648 := h
  have := u64_and_nat x 1023 (by omega) (by decide)
  rw [show (1023 : Nat) = 2 ^ 10 - 1 by decide, Nat.and_two_pow_sub_one_eq_mod] at this
  exact this
theorem first_loop (l : List Nat) (hl : ∀ b ∈ l, b < 256) (e : Nat) (he : e ≤ l.length) (he2 : e ≤ 2048) (d : Nat) : ∀ n, n + d = e → 512 ≤ n → Ev (fun k => cut_First.l0 k (ofN l) ((Win l n : Nat) : Int) (e : Int) (n : Int)) ((firstN l d n : Nat) : Int) := by
  induction d with
  | zero =>
    intro n hn h5
    obtain rfl : n = e := by omega
    refine Ev.step (f := fun _ => some ((n : Nat) : Int)) (fun k => ?_) (Ev.now _)
    simp only [cut_First.l0]
    by_cases hc : Go.bits .and .u64 ((Win l n : Nat) : Int) 1023 = 1023
    · rw [if_pos hc]
    · rw [if_neg hc, if_pos trivial]
  | succ d ih =>
    intro n hn h5
    have ha := and1023 (win_lt l hl n)
    simp only [firstN]
    by_cases hc : Win l n % 1024 = 1023
    · rw [if_pos hc]
      refine Ev.step (f := fun _ => some ((n : Nat) : Int)) (fun k => ?_) (Ev.now _)
      simp only [cut_First.l0]
      rw [ha, if_pos (by omega)]
    · rw [if_neg hc]
      have hlt : n < l.length := by omega
      have hlo : n - 16 < l.length := by omega
      have h16 : 16 ≤ n := by omega
      have hn1 : n + 1 + d = e := by omega
      have h51 : 512 ≤ n + 1 := by omega
      have s1 : ¬ (((Win l n % 1024 : Nat) : Int) = 1023) := by omega
      have s2 : ¬ ((n : Int) = (e : Int)) := by omega
      have s3 : (0 : Int) ≤ ((n - 16 : Nat) : Int) := by omega
      have s4 : ((n - 16 : Nat) : Int) < ((ofN l).length : Int) := by rw [ofN_length]; omega
      have s5 : (0 : Int) ≤ (n : Int) := by omega
      have s6 : (n : Int) < ((ofN l).length : Int) := by rw [ofN_length]; omega
      have e1 : wrap64 ((n : Int) - 16) = ((n - 16 : Nat) : Int) := by rw [w64 (by omega) (by omega)]; omega
      have e2 : wrap64 ((n : Int) + 1) = ((n + 1 : Nat) : Int) := by rw [w64 (by omega) (by omega)]; omega
      have hq := ih (n + 1) hn1 h51
      have er := win_roll l hl n h16 hlt
      have r1 := rdN l n hlt
      have r2 := rdN l (n - 16) hlo
      have hr := roll_ev (f := Win l n) (o := l[n - 16]) (b := l[n]) (win_lt l hl n) (hl _ (List.getElem_mem hlo)) (hl _ (List.getElem_mem hlt))
      rw [er] at hr
      clear er
      generalize l[n - 16] = o at r2 hr
      generalize l[n] = c at r1 hr
      generalize Win l (n + 1) = x at hr hq
      generalize Win l n = y at ha s1 hr ⊢
      refine Ev.step (f := fun k => (rabin_Roll.f k (y : Int) (o : Int) (c : Int)).bind fun t => cut_First.l0 k (ofN l) t (e : Int) ((n + 1 : Nat) : Int)) (fun k => ?_) (Ev.bind (f := fun k t => cut_First.l0 k (ofN l) t (e : Int) ((n + 1 : Nat) : Int)) hr hq)
      simp only [cut_First.l0]
      rw [ha, if_neg s1, if_neg s2, e1, if_pos s3, if_pos s4, if_pos s5, if_pos s6, r1, r2, e2]
theorem mn_nat (a : Nat) : mn (a : Int) 2048 = ((min a 2048 : Nat) : Int) := by
  unfold mn
  split <;> omega
theorem first_ev (l : List Nat) (hl : ∀ b ∈ l, b < 256) : Ev (fun k => cut_First.f k (ofN l)) ((firstV l : Nat) : Int) := by
  unfold firstV
  by_cases h : l.length ≤ 512
  · rw [if_pos h]
    refine Ev.congr (fun k => ?_) (Ev.now _)
    unfold cut_First.f
    rw [ofN_length, if_pos (by omega)]
  · rw [if_neg h]
    have hw := window_ev ((l.take 512).drop 496) (fun b hb => hl b (List.mem_of_mem_take (List.mem_of_mem_drop hb))) (by rw [List.length_drop, List.length_take]; omega)
    have hq := first_loop l hl (min l.length 2048) (by omega) (by omega) (min l.length 2048 - 512) 512 (by omega) (by omega)
    have ew : Win l 512 = W 0 ((l.take 512).drop 496) := rfl
    rw [ew] at hq
    generalize W 0 ((l.take 512).drop 496) = x at hw hq
    refine Ev.congr (fun k => ?_) (Ev.bind (f := fun k t => cut_First.l0 k (ofN l) t ((min l.length 2048 : Nat) : Int) ((512 : Nat) : Int)) hw hq)
    unfold cut_First.f
    rw [ofN_length, if_neg (by omega), if_pos (by omega), if_pos (by omega), mn_nat, ofN_take, ofN_drop]
    rfl
theorem rfirst_loop (l : List Nat) (hl : ∀ b ∈ l, b < 256) (e : Nat) (he : e = min l.length 2048) (d : Nat) : ∀ n, n + d = e → 512 ≤ n → Ev (fun k => q06_First.l0 k (ofN l) (n : Int)) ((firstN l d n : Nat) : Int) := by
  have hend : ∀ n, n = e + 1 → Ev (fun k => q06_First.l0 k (ofN l) (n : Int)) ((e : Nat) : Int) := by
    intro n hn
    have hj : Ev (fun k => q06_First.j1 k (ofN l) (n : Int) false) ((e : Nat) : Int) := by
      refine Ev.step (f := fun _ => some ((e : Nat) : Int)) (fun k => ?_) (Ev.now _)
      simp only [q06_First.j1]
      rw [if_neg (by decide), ofN_length, mn_nat, he]
    refine Ev.step (fun k => ?_) hj
    simp only [q06_First.l0]
    by_cases h2 : (n : Int) ≤ 2048
    · rw [if_pos h2, ofN_length, decide_eq_false (by omega)]
    · rw [if_neg h2]
  have hstep : ∀ n r, n ≤ e → 512 ≤ n → (Win l n % 1024 = 1023 → r = n) → (Win l n % 1024 ≠ 1023 → Ev (fun k => q06_First.l0 k (ofN l) ((n + 1 : Nat) : Int)) ((r : Nat) : Int)) → Ev (fun k => q06_First.l0 k (ofN l) (n : Int)) ((r : Nat) : Int) := by
    intro n r hn h5 h1 h2
    have hw := rwindow_ev ((l.take n).drop (n - 16)) (fun b hb => hl b (List.mem_of_mem_take (List.mem_of_mem_drop hb))) (by rw [List.length_drop, List.length_take]; omega)
    have e1 : wrap64 ((n : Int) - 16) = ((n - 16 : Nat) : Int) := by rw [w64 (by omega) (by omega)]; omega
    have e2 : wrap64 ((n : Int) + 1) = ((n + 1 : Nat) : Int) := by rw [w64 (by omega) (by omega)]; omega
    have hx : W 0 ((l.take n).drop (n - 16)) = Win l n := rfl
    rw [hx] at hw
    have hj : Ev (fun k => q06_First.j1 k (ofN l) (n : Int) true) ((r : Nat) : Int) := by
      refine Ev.step (f := fun k => (q05_Window.f k (ofN ((l.take n).drop (n - 16)))).bind fun t => if Int.tmod t 1024 = 1023 then some (n : Int) else q06_First.l0 k (ofN l) ((n + 1 : Nat) : Int)) (fun k => ?_) (Ev.bind (f := fun k t => if Int.tmod t 1024 = 1023 then some (n : Int) else q06_First.l0 k (ofN l) ((n + 1 : Nat) : Int)) hw ?_)
      · simp only [q06_First.j1]
        rw [if_pos trivial, e1, e2, if_pos (by omega), if_pos (by omega), ofN_length, if_pos (by omega), Int.toNat_natCast, Int.toNat_natCast, ofN_take, ofN_drop]
      · have em : Int.tmod ((Win l n : Nat) : Int) 1024 = ((Win l n % 1024 : Nat) : Int) := by rw [Int.tmod_eq_emod_of_nonneg (Int.natCast_nonneg _)]; rfl
        rw [em]
        by_cases hc : Win l n % 1024 = 1023
        · rw [h1 hc]
          refine Ev.congr (fun k => ?_) (Ev.now _)
          rw [if_pos (by omega)]
        · refine Ev.congr (fun k => ?_) (h2 hc)
          rw [if_neg (by omega)]
    refine Ev.step (fun k => ?_) hj
    simp only [q06_First.l0]
    rw [if_pos (by omega), ofN_length, decide_eq_true (by omega)]
  induction d with
  | zero =>
    intro n hn h5
    refine hstep n _ (by omega) h5 (fun _ => rfl) (fun _ => ?_)
    have := hend (n + 1) (by omega)
    simp only [firstN]
    rw [show n = e by omega] at this ⊢
    exact this
  | succ d ih =>
    intro n hn h5
    refine hstep n _ (by omega) h5 (fun hc => ?_) (fun hc => ?_)
    · simp only [firstN]; rw [if_pos hc]
    · simp only [firstN]; rw [if_neg hc]; exact ih (n + 1) (by omega) (by omega)
theorem rfirst_ev (l : List Nat) (hl : ∀ b ∈ l, b < 256) : Ev (fun k => q06_First.f k (ofN l)) ((firstV l : Nat) : Int) := by
  unfold firstV
  by_cases h : l.length < 512
  · rw [if_pos (by omega)]
    have hj : Ev (fun k => q06_First.j1 k (ofN l) 512 false) ((l.length : Nat) : Int) := by
      refine Ev.step (f := fun _ => some ((l.length : Nat) : Int)) (fun k => ?_) (Ev.now _)
      simp only [q06_First.j1]
      rw [if_neg (by decide), ofN_length, mn_nat, show min l.length 2048 = l.length by omega]
    refine Ev.step (fun k => ?_) hj
    unfold q06_First.f
    simp only [q06_First.l0]
    rw [if_pos (by decide), ofN_length, decide_eq_false (by omega)]
  · have hq := rfirst_loop l hl (min l.length 2048) rfl (min l.length 2048 - 512) 512 (by omega) (by omega)
    by_cases h5 : l.length ≤ 512
    · rw [if_pos h5]
      have e : min l.length 2048 - 512 = 0 := by omega
      rw [e] at hq
      have e2 : l.length = 512 := by omega
      rw [e2]
      exact hq
    · rw [if_neg h5]
      exact hq
def splitV : Nat → List Nat → List (List Nat)
  | 0, _ => []
  | n + 1, l => if l = [] then [] else l.take (firstV l) :: splitV n (l.drop (firstV l))
theorem splitV_mem (n : Nat) : ∀ (l c : List Nat), c ∈ splitV n l → (∀ b ∈ c, b ∈ l) ∧ c.length ≤ l.length := by
  induction n with
  | zero => intro l c h; simp [splitV] at h
  | succ n ih =>
    intro l c h
    simp only [splitV] at h
    split at h
    · simp at h
    · rcases List.mem_cons.1 h with rfl | h
      · exact ⟨fun b hb => List.mem_of_mem_take hb, by rw [List.length_take]; omega⟩
      · have := ih _ _ h
        exact ⟨fun b hb => List.mem_of_mem_drop (this.1 b hb), by rw [List.length_drop] at this; omega⟩
theorem splitV_length (n : Nat) : ∀ l : List Nat, (splitV n l).length ≤ l.length := by
  induction n with
  | zero => intro l; simp [splitV]
  | succ n ih =>
    intro l
    simp only [splitV]
    split
    · simp
    · rename_i h
      have h1 := firstV_pos h
      have h2 := firstV_le l
      have := ih (l.drop (firstV l))
      rw [List.length_drop] at this
      simp only [List.length_cons]
      omega
theorem split_loop (n : Nat) : ∀ (l : List Nat) (acc : List (List Int)), (∀ b ∈ l, b < 256) → l.length ≤ n → acc.length + l.length ≤ 1099511627776 → Ev (fun k => cut_Split.l0 k (ofN l) acc) (acc ++ (splitV n l).map ofN) := by
  induction n with
  | zero =>
    intro l acc hl hn ha
    obtain rfl : l = [] := List.length_eq_zero_iff.1 (by omega)
    refine Ev.step (f := fun _ => some acc) (fun k => ?_) ?_
    · simp only [cut_Split.l0]
      rw [if_neg (by simp [ofN])]
    · simp only [splitV, List.map_nil, List.append_nil]
      exact Ev.now _
  | succ n ih =>
    intro l acc hl hn ha
    by_cases h : l = []
    · subst h
      refine Ev.step (f := fun _ => some acc) (fun k => ?_) ?_
      · simp only [cut_Split.l0]
        rw [if_neg (by simp [ofN])]
      · simp only [splitV, if_true, List.map_nil, List.append_nil]
        exact Ev.now _
    · have h1 := firstV_pos h
      have h2 := firstV_le l
      have hf := first_ev l hl
      have hq := ih (l.drop (firstV l)) (acc ++ [ofN (l.take (firstV l))]) (fun b hb => hl b (List.mem_of_mem_drop hb)) (by rw [List.length_drop]; omega) (by rw [List.length_append, List.length_drop]; simp; omega)
      have e : acc ++ (splitV (n + 1) l).map ofN = acc ++ [ofN (l.take (firstV l))] ++ (splitV n (l.drop (firstV l))).map ofN := by
        simp only [splitV]
        rw [if_neg h]
        simp
      rw [e]
      refine Ev.step (f := fun k => (cut_First.f k (ofN l)).bind fun t => if 0 ≤ t then (if t ≤ ((ofN l).length : Int) then ((bytes_Clone.f ((ofN l).take t.toNat)).bind fun c => if acc.length < 5864062014805 then cut_Split.l0 k ((ofN l).drop t.toNat) (acc ++ [c]) else none) else none) else none) (fun k => ?_) (Ev.bind (f := fun k t => if 0 ≤ t then (if t ≤ ((ofN l).length : Int) then ((bytes_Clone.f ((ofN l).take t.toNat)).bind fun c => if acc.length < 5864062014805 then cut_Split.l0 k ((ofN l).drop t.toNat) (acc ++ [c]) else none) else none) else none) hf ?_)
      · simp only [cut_Split.l0]
        rw [if_pos (by rw [ofN_length]; have := List.length_pos_iff.2 h; omega)]
      · refine Ev.congr (fun k => ?_) hq
        rw [if_pos (by omega), ofN_length, if_pos (by omega), Int.toNat_natCast, ofN_take, ofN_drop]
        unfold bytes_Clone.f
        rw [if_pos (by rw [ofN_length, List.length_take]; omega)]
        simp only [Option.bind_some]
        rw [if_pos (by omega)]
theorem split_ev (l : List Nat) (hl : ∀ b ∈ l, b < 256) (hn : l.length ≤ 1099511627776) : Ev (fun k => cut_Split.f k (ofN l)) ((splitV l.length l).map ofN) := by
  have := split_loop l.length l [] hl (Nat.le_refl _) (by simpa using hn)
  rw [List.nil_append] at this
  exact this
def ends : Nat → Nat → List Nat → List Int
  | 0, _, _ => []
  | n + 1, p, l => if l = [] then [] else ((p + firstV l : Nat) : Int) :: ends n (p + firstV l) (l.drop (firstV l))
theorem cuts_loop (l : List Nat) (hl : ∀ b ∈ l, b < 256) (hb : l.length ≤ 1099511627776) (n : Nat) : ∀ (p : Nat) (acc : List Int), p ≤ l.length → (l.drop p).length ≤ n → acc.length + (l.drop p).length ≤ 1099511627776 → Ev (fun k => q06_Cuts.l0 k (ofN l) acc (p : Int)) (acc ++ ends n p (l.drop p)) := by
  induction n with
  | zero =>
    intro p acc hp hn ha
    rw [List.length_drop] at hn
    refine Ev.step (f := fun _ => some acc) (fun k => ?_) ?_
    · simp only [q06_Cuts.l0]
      rw [if_neg (by rw [ofN_length]; omega)]
    · simp only [ends, List.append_nil]
      exact Ev.now _
  | succ n ih =>
    intro p acc hp hn ha
    by_cases h : l.drop p = []
    · have hlen : l.length ≤ p := List.drop_eq_nil_iff.1 h
      refine Ev.step (f := fun _ => some acc) (fun k => ?_) ?_
      · simp only [q06_Cuts.l0]
        rw [if_neg (by rw [ofN_length]; omega)]
      · simp only [ends]
        rw [if_pos h, List.append_nil]
        exact Ev.now _
    · have hpos := List.length_pos_iff.2 h
      rw [List.length_drop] at hpos hn ha
      have h1 := firstV_pos h
      have h2 := firstV_le (l.drop p)
      rw [List.length_drop] at h2
      have hf := rfirst_ev (l.drop p) (fun b hb => hl b (List.mem_of_mem_drop hb))
      have hq := ih (p + firstV (l.drop p)) (acc ++ [((p + firstV (l.drop p) : Nat) : Int)]) (by omega) (by rw [List.length_drop]; omega) (by rw [List.length_append, List.length_drop]; simp; omega)
      have e : acc ++ ends (n + 1) p (l.drop p) = acc ++ [((p + firstV (l.drop p) : Nat) : Int)] ++ ends n (p + firstV (l.drop p)) (l.drop (p + firstV (l.drop p))) := by
        simp only [ends]
        rw [if_neg h, List.drop_drop]
        simp
      rw [e]
      generalize firstV (l.drop p) = v at h1 h2 hf hq
      have ew : wrap64 ((p : Int) + (v : Int)) = ((p + v : Nat) : Int) := by rw [w64 (by omega) (by omega)]; omega
      refine Ev.step (f := fun k => (q06_First.f k (ofN (l.drop p))).bind fun t => if acc.length < 17592186044416 then q06_Cuts.l0 k (ofN l) (acc ++ [wrap64 ((p : Int) + t)]) (wrap64 ((p : Int) + t)) else none) (fun k => ?_) (Ev.bind (f := fun k t => if acc.length < 17592186044416 then q06_Cuts.l0 k (ofN l) (acc ++ [wrap64 ((p : Int) + t)]) (wrap64 ((p : Int) + t)) else none) hf ?_)
      · simp only [q06_Cuts.l0]
        rw [if_pos (by rw [ofN_length]; omega), if_pos (by omega), if_pos (by rw [ofN_length]; omega), Int.toNat_natCast, ofN_drop]
      · refine Ev.congr (fun k => ?_) hq
        rw [if_pos (by omega), ew]
theorem ends_head (n p : Nat) (l : List Nat) (pre : List Int) (h : l ≠ []) : rd (pre ++ ends (n + 1) p l) (pre.length : Int) = ((p + firstV l : Nat) : Int) := by
  simp only [ends]
  rw [if_neg h]
  simp [rd]
theorem rsplit_loop (l : List Nat) (hl : ∀ b ∈ l, b < 256) (hb : l.length ≤ 1099511627776) (n : Nat) : ∀ (p : Nat) (acc : List (List Int)) (pre x5 : List Int), p ≤ l.length → (l.drop p).length ≤ n → acc.length + (l.drop p).length ≤ 1099511627776 → pre.length + (l.drop p).length ≤ 1099511627776 → x5 = pre ++ ends n p (l.drop p) → Ev (fun k => q06_Split.l0 k (ofN l) acc (p : Int) x5 (pre.length : Int)) (acc ++ (splitV n (l.drop p)).map ofN) := by
  induction n with
  | zero =>
    intro p acc pre x5 hp hn ha hpr hx
    have he0 : ends 0 p (l.drop p) = [] := rfl
    rw [he0, List.append_nil] at hx
    subst hx
    refine Ev.step (f := fun _ => some acc) (fun k => ?_) ?_
    · simp only [q06_Split.l0]
      rw [if_neg (by omega)]
    · simp only [splitV, List.map_nil, List.append_nil]
      exact Ev.now _
  | succ n ih =>
    intro p acc pre x5 hp hn ha hpr hx
    by_cases h : l.drop p = []
    · have he0 : ends (n + 1) p (l.drop p) = [] := by
        simp only [ends]
        rw [if_pos h]
      rw [he0, List.append_nil] at hx
      subst hx
      refine Ev.step (f := fun _ => some acc) (fun k => ?_) ?_
      · simp only [q06_Split.l0]
        rw [if_neg (by omega)]
      · simp only [splitV]
        rw [if_pos h, List.map_nil, List.append_nil]
        exact Ev.now _
    · have hpos := List.length_pos_iff.2 h
      have hrd := ends_head n p (l.drop p) pre h
      rw [← hx] at hrd
      have hlen : pre.length < x5.length := by
        rw [hx]
        simp only [ends]
        rw [if_neg h]
        simp
      rw [List.length_drop] at hpos hn ha hpr
      have h1 := firstV_pos h
      have h2 := firstV_le (l.drop p)
      rw [List.length_drop] at h2
      have e : acc ++ (splitV (n + 1) (l.drop p)).map ofN = acc ++ [ofN ((l.drop p).take (firstV (l.drop p)))] ++ (splitV n (l.drop (p + firstV (l.drop p)))).map ofN := by
        simp only [splitV]
        rw [if_neg h, List.drop_drop]
        simp
      have hx2 : x5 = (pre ++ [((p + firstV (l.drop p) : Nat) : Int)]) ++ ends n (p + firstV (l.drop p)) (l.drop (p + firstV (l.drop p))) := by
        rw [hx]
        simp only [ends]
        rw [if_neg h, List.drop_drop]
        simp
      rw [e]
      generalize hv : firstV (l.drop p) = v at h1 h2 hrd hx2 ⊢
      have hq := ih (p + v) (acc ++ [ofN ((l.drop p).take v)]) (pre ++ [((p + v : Nat) : Int)]) x5 (by omega) (by rw [List.length_drop]; omega) (by rw [List.length_append, List.length_drop]; simp; omega) (by rw [List.length_append, List.length_drop]; simp; omega) hx2
      have ew : wrap64 ((pre.length : Int) + 1) = (((pre ++ [((p + v : Nat) : Int)]).length : Nat) : Int) := by rw [w64 (by omega) (by omega), List.length_append]; simp
      have ed : ((ofN l).take (((p + v : Nat) : Int).toNat)).drop ((p : Int).toNat) = ofN ((l.drop p).take v) := by
        rw [Int.toNat_natCast, Int.toNat_natCast, ofN_take, ofN_drop, List.drop_take, show p + v - p = v by omega]
      refine Ev.step (fun k => ?_) hq
      simp only [q06_Split.l0, Option.bind_some]
      rw [if_pos (by omega), if_pos (by omega), if_pos (by omega), hrd, if_pos (by omega), if_pos (by rw [ofN_length]; omega), ed, if_pos (by simp [ofN]; omega), if_pos (by omega), ew, List.nil_append]
theorem rsplit_ev (l : List Nat) (hl : ∀ b ∈ l, b < 256) (hb : l.length ≤ 1099511627776) : Ev (fun k => q06_Split.f k (ofN l)) ((splitV l.length l).map ofN) := by
  have hc := cuts_loop l hl hb l.length 0 [] (Nat.zero_le _) (by simp) (by simpa using hb)
  have hs := rsplit_loop l hl hb l.length 0 [] [] (ends l.length 0 l) (Nat.zero_le _) (by simp) (by simpa using hb) (by simpa using hb) (by simp)
  rw [List.drop_zero, List.nil_append] at hc hs
  exact Ev.bind (f := fun k t => q06_Split.l0 k (ofN l) ([] : List (List Int)) 0 t 0) hc hs
theorem lists_ev (ls : List (List Int)) (hl : ls.length ≤ 9223372036854775807) : Ev (fun k => q06_Lists.f k ls ls) true := by
  refine Ev.congr (fun k => ?_) (same_loop ls (fun k i => q06_Lists.l0 k ls ls (i : Int)) (fun k i h => ?_) (fun k => ?_) ls.length 0 (by omega))
  · unfold q06_Lists.f; rw [if_pos rfl]; rfl
  · simp only [q06_Lists.l0]
    rw [if_pos (by omega), if_pos (by omega), if_pos (by omega), if_pos (by trivial), wrap_succ i ls.length h hl]
  · simp only [q06_Lists.l0]; rw [if_neg (by omega)]
end Go.Proofs.Ytjjbofbkpmabbaa.RabC
