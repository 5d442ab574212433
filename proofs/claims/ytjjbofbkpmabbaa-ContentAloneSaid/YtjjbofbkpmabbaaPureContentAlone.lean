import Derived.Test.YtjjbofbkpmabbaaRabC
import Derived.Test.YtjjbofbkpmabbaaHx0
import Derived.Test.YtjjbofbkpmabbaaHx5
import Derived.Test.YtjjbofbkpmabbaaHx6
import Derived.Test.YtjjbofbkpmabbaaHx7
import Derived.Test.YtjjbofbkpmabbaaHx12
import Derived.Test.YtjjbofbkpmabbaaHx13
namespace Go.Proofs.Ytjjbofbkpmabbaa.Pure
open Go.RowKit Go.Proofs.Ytjjbofbkpmabbaa.Fn Go.Proofs.YtjjbofbkpmabbaaW.PrintWords Go.Proofs.YtjjbofbkpmabbaaW.PrintLast Go.Proofs.Ytjjbofbkpmabbaa.U Go.Proofs.Ytjjbofbkpmabbaa.RabC
set_option linter.unusedVariables false
set_option linter.unusedSimpArgs false
theorem refOf_ev (a : Int) (l : List Int) (hb : ∀ x ∈ l, 0 ≤ x ∧ x < 256) (hl : l.length < 140737488355000) : Ev (fun k => q07_Of.f k a l) (keyOf a l) := by
  have hB : ∀ x ∈ (a % 256 :: l), 0 ≤ x ∧ x < 256 := by
    intro x hx
    rcases List.mem_cons.1 hx with rfl | hx
    · omega
    · exact hb x hx
  have hS := refSum_ev (a % 256 :: l) (bytes_Ws hB) (by simp; omega) (check_two _ l (by omega))
  have hT := refText_ev (sumOf (a % 256 :: l)) (by rw [sumOf_length]; decide) (sumOf_range _)
  have hlen : [a % 256].length + l.length < 140737488355328 := by simp; omega
  unfold q07_Of.f keyOf
  generalize sumOf (a % 256 :: l) = s at hS hT
  simp only [Option.bind_some, if_pos hlen, List.singleton_append]
  exact Ev.bind (f := fun k t => (q07_text.f k t).bind fun u => some u) hS (Ev.bind (f := fun _ u => some u) hT (Ev.now _))
theorem heads_ev : Ev (fun k => l22_heads.f k) true := Ev.of l22_heads.mono (k := 420) (by decide +kernel)
theorem heads_bind : Ev (fun k => (l22_heads.f k).bind fun t => some t) true := Ev.bind heads_ev (Ev.now _)
def ref1 (c : List Int) : S32 := ⟨keyOf 1 c, 0, 0, (c.length : Int)⟩
def Small (ls : List (List Int)) : Prop := ls.length ≤ 9000 ∧ ∀ c ∈ ls, c.length ≤ 9000 ∧ ∀ x ∈ c, 0 ≤ x ∧ x < 256
theorem rdL_at (ls : List (List Int)) (i : Nat) (h : i < ls.length) : rd_L1 ls (i : Int) = ls[i] := by
  simp [rd_L1, h]
theorem rdT_at (ls : List (List Int)) (i : Nat) (h : i < ls.length) : rd_T32 (ls.map ref1) (i : Int) = ref1 ls[i] := by
  simp [rd_T32, h]
theorem plan_l1 (ls : List (List Int)) (hs : Small ls) (d : Nat) : ∀ i, i + d = ls.length → Ev (fun k => content_Plan.l1 k ((ls.take i).map ref1) ls ls (ls.length : Int) (i : Int)) (ls.map ref1, ls) := by
  have hs1 := hs.1
  induction d with
  | zero =>
    intro i hi
    obtain rfl : i = ls.length := by omega
    rw [List.take_length]
    refine Ev.step (f := fun _ => some (ls.map ref1, ls)) (fun k => ?_) (Ev.now _)
    simp only [content_Plan.l1]
    rw [if_neg (by omega)]
  | succ d ih =>
    intro i hi
    have hlt : i < ls.length := by omega
    have hc := (hs.2 ls[i] (List.getElem_mem hlt)).1
    have s1 : (i : Int) < (ls.length : Int) := by omega
    have s2 : (0 : Int) ≤ (i : Int) := by omega
    have s3 : ((ls.take i).map ref1).length < 3518437208883 := by rw [List.length_map, List.length_take]; omega
    have hk := keyOf_ev 1 ls[i] (by omega)
    have hq := ih (i + 1) (by omega)
    have ew : wrap64 ((i : Int) + 1) = ((i + 1 : Nat) : Int) := by rw [w64 (by omega) (by omega)]; omega
    have et : (ls.take (i + 1)).map ref1 = (ls.take i).map ref1 ++ [ref1 ls[i]] := by rw [List.take_succ_eq_append_getElem hlt, List.map_append]; rfl
    rw [et] at hq
    have er := rdL_at ls i hlt
    unfold ref1 at hq ⊢
    generalize keyOf 1 ls[i] = y at hk hq
    refine Ev.step (f := fun k => (key_Of.f k 1 ls[i]).bind fun t => if ((ls.take i).map ref1).length < 3518437208883 then content_Plan.l1 k ((ls.take i).map ref1 ++ [⟨t, 0, 0, (ls[i].length : Int)⟩]) ls ls (ls.length : Int) ((i + 1 : Nat) : Int) else none) (fun k => ?_) (Ev.bind (f := fun k t => if ((ls.take i).map ref1).length < 3518437208883 then content_Plan.l1 k ((ls.take i).map ref1 ++ [⟨t, 0, 0, (ls[i].length : Int)⟩]) ls ls (ls.length : Int) ((i + 1 : Nat) : Int) else none) hk ?_)
    · simp only [content_Plan.l1]
      rw [if_pos s1, if_pos s2, if_pos s1, er, ew]
      rfl
    · refine Ev.congr (fun k => ?_) hq
      rw [if_pos s3]
      rfl
theorem plan_j1 (l : List Nat) (hl : ∀ b ∈ l, b < 256) (hn : l.length ≤ 9000) (a : Int) (ha : a ≤ 0) (x8 : Int) (hs : Small ((splitV l.length l).map ofN)) : Ev (fun k => content_Plan.j1 k (ofN l) a x8) (((splitV l.length l).map ofN).map ref1, (splitV l.length l).map ofN) := by
  have h1 := split_ev l hl (by omega)
  generalize (splitV l.length l).map ofN = ls at h1 hs ⊢
  have h2 := plan_l1 ls hs ls.length 0 (by omega)
  have h4 : Ev (fun k => content_Plan.j4 k (ofN l) 0 ([] : List S32)) (ls.map ref1, ls) := by
    refine Ev.step (f := fun k => (cut_Split.f k (ofN l)).bind fun t => content_Plan.l1 k ([] : List S32) t t (t.length : Int) 0) (fun k => ?_) (Ev.bind (f := fun k t => content_Plan.l1 k ([] : List S32) t t (t.length : Int) 0) h1 h2)
    simp only [content_Plan.j4]
    rw [if_pos (by decide), if_pos (by omega)]
    rfl
  have h3 : Ev (fun k => content_Plan.j3 k (ofN l) a 0 ([] : List S32)) (ls.map ref1, ls) := by
    refine Ev.step (fun k => ?_) h4
    simp only [content_Plan.j3]
    rw [if_neg (by decide)]
  have h5 : Ev (fun k => content_Plan.j2 k (ofN l) a x8 ([] : List S32) true) (ls.map ref1, ls) := by
    refine Ev.step (fun k => ?_) h3
    simp only [content_Plan.j2]
    rw [if_pos trivial]
  refine Ev.step (fun k => ?_) h5
  simp only [content_Plan.j1]
  rw [if_pos ha]
theorem plan_l0 (l m : List Nat) (a : Int) (hn : l.length ≤ 9000) (R : List S32 × List (List Int)) (hj : ∀ x8 : Int, Ev (fun k => content_Plan.j1 k (ofN l) a x8) R) (d : Nat) : ∀ i, i + d = min l.length m.length → Ev (fun k => content_Plan.l0 k (ofN l) a (ofN m) (i : Int)) R := by
  have hmn : mn (l.length : Int) (m.length : Int) = ((min l.length m.length : Nat) : Int) := by
    unfold mn
    split <;> omega
  induction d with
  | zero =>
    intro i hi
    refine Ev.step (fun k => ?_) (hj (i : Int))
    simp only [content_Plan.l0]
    rw [ofN_length, ofN_length, hmn, if_neg (by omega)]
  | succ d ih =>
    intro i hi
    have s1 : (i : Int) < ((min l.length m.length : Nat) : Int) := by omega
    have s2 : (0 : Int) ≤ (i : Int) := by omega
    have s3 : (i : Int) < (l.length : Int) := by omega
    have s4 : (i : Int) < (m.length : Int) := by omega
    have hq := ih (i + 1) (by omega)
    have ew : wrap64 ((i : Int) + 1) = ((i + 1 : Nat) : Int) := by rw [w64 (by omega) (by omega)]; omega
    by_cases hc : rd (ofN l) (i : Int) = rd (ofN m) (i : Int)
    · refine Ev.step (fun k => ?_) hq
      simp only [content_Plan.l0]
      rw [ofN_length, ofN_length, hmn, if_pos s1, if_pos s2, if_pos s3, if_pos s4, if_pos hc, ew]
    · refine Ev.step (fun k => ?_) (hj (i : Int))
      simp only [content_Plan.l0]
      rw [ofN_length, ofN_length, hmn, if_pos s1, if_pos s2, if_pos s3, if_pos s4, if_neg hc]
theorem law_l0 (ls : List (List Int)) (hs : Small ls) (d : Nat) : ∀ i, i + d = ls.length → Ev (fun k => l22_ContentAlone.l0 k (ls.map ref1) ls (i : Int)) true := by
  have hs1 := hs.1
  induction d with
  | zero =>
    intro i hi
    refine Ev.step (fun k => ?_) heads_bind
    simp only [l22_ContentAlone.l0]
    rw [if_neg (by rw [List.length_map]; omega)]
  | succ d ih =>
    intro i hi
    have hlt : i < ls.length := by omega
    have hc := hs.2 ls[i] (List.getElem_mem hlt)
    have s0 : (i : Int) < ((ls.map ref1).length : Int) := by rw [List.length_map]; omega
    have s1 : (i : Int) < (ls.length : Int) := by omega
    have s2 : (0 : Int) ≤ (i : Int) := by omega
    have hk := refOf_ev 1 ls[i] hc.2 (by omega)
    have hq := ih (i + 1) (by omega)
    have ew : wrap64 ((i : Int) + 1) = ((i + 1 : Nat) : Int) := by rw [w64 (by omega) (by omega)]; omega
    have er := rdL_at ls i hlt
    have et := rdT_at ls i hlt
    have e0 : (ref1 ls[i]).f0 = keyOf 1 ls[i] := rfl
    have e1 : (ref1 ls[i]).f1 = 0 := rfl
    have e3 : (ref1 ls[i]).f3 = (ls[i].length : Int) := rfl
    refine Ev.step (f := fun k => (q07_Of.f k 1 ls[i]).bind fun t => if (keyOf 1 ls[i]).toList = t.toList then l22_ContentAlone.l0 k (ls.map ref1) ls ((i + 1 : Nat) : Int) else some false) (fun k => ?_) (Ev.bind (f := fun k t => if (keyOf 1 ls[i]).toList = t.toList then l22_ContentAlone.l0 k (ls.map ref1) ls ((i + 1 : Nat) : Int) else some false) hk ?_)
    · simp only [l22_ContentAlone.l0]
      rw [if_pos s0, if_pos s2, if_pos s1, er, et, e0, e1, e3, ew]
      simp only [if_true]
    · refine Ev.congr (fun k => ?_) hq
      rw [if_pos rfl]
theorem ContentAlone : l22_ContentAlone.Pure := by
  intro l0 l1 a2 _ _ hw0 _ _ hw1 hw2
  obtain ⟨l, rfl, hl⟩ := bytes_of hw0
  obtain ⟨m, rfl, hm⟩ := bytes_of hw1
  have hheads : Ev (fun k => l22_ContentAlone.j0 k (ofN l) (ofN m) a2 true) true := by
    refine Ev.step (fun k => ?_) heads_bind
    simp only [l22_ContentAlone.j0]
    rw [if_pos trivial]
  have hfin : Ev (fun k => l22_ContentAlone.f k (ofN l) (ofN m) a2) true := by
    by_cases h9 : l.length > 9000
    · refine Ev.congr (fun k => ?_) hheads
      unfold l22_ContentAlone.f
      rw [ofN_length, if_pos (by omega)]
    · have hn : l.length ≤ 9000 := by omega
      by_cases ha : a2 > 0
      · refine Ev.congr (fun k => ?_) hheads
        unfold l22_ContentAlone.f
        rw [ofN_length, if_neg (by omega), decide_eq_true ha]
      · have hs : Small ((splitV l.length l).map ofN) := by
          refine ⟨by rw [List.length_map]; exact Nat.le_trans (splitV_length _ _) hn, fun c hc => ?_⟩
          obtain ⟨c', hc', rfl⟩ := List.mem_map.1 hc
          have hm' := splitV_mem _ _ _ hc'
          refine ⟨by rw [ofN_length]; omega, fun x hx => ?_⟩
          obtain ⟨b, hb, rfl⟩ := List.mem_map.1 hx
          have := hl b (hm'.1 b hb)
          have e : Int.ofNat b = (b : Int) := rfl
          rw [e]
          omega
        have hplan := plan_l0 l m a2 hn _ (fun x8 => plan_j1 l hl hn a2 (by omega) x8 hs) (min l.length m.length) 0 (by omega)
        have hsp := rsplit_ev l hl (by omega)
        generalize (splitV l.length l).map ofN = ls at hs hplan hsp
        have hlist := lists_ev ls (by have := hs.1; omega)
        have hj1 : Ev (fun k => l22_ContentAlone.j1 k (ls.map ref1) ls false) true := by
          refine Ev.step (fun k => ?_) (law_l0 ls hs ls.length 0 (by omega))
          simp only [l22_ContentAlone.j1]
          rw [if_neg (by decide)]
          rfl
        have hlen : (((ls.map ref1).length : Int) != (ls.length : Int)) = false := by rw [List.length_map]; simp
        have hj0 : Ev (fun k => l22_ContentAlone.j0 k (ofN l) (ofN m) a2 false) true := by
          refine Ev.step (f := fun k => (content_Plan.f k (ofN l) a2 (ofN m)).bind fun b => (q06_Split.f k (ofN l)).bind fun t => (q06_Lists.f k b.2 t).bind fun c => if c = true then l22_ContentAlone.j1 k b.1 b.2 ((b.1.length : Int) != (b.2.length : Int)) else l22_ContentAlone.j1 k b.1 b.2 true) (fun k => ?_) ?_
          · simp only [l22_ContentAlone.j0]
            rw [if_neg (by decide)]
          · refine Ev.bind (f := fun k b => (q06_Split.f k (ofN l)).bind fun t => (q06_Lists.f k b.2 t).bind fun c => if c = true then l22_ContentAlone.j1 k b.1 b.2 ((b.1.length : Int) != (b.2.length : Int)) else l22_ContentAlone.j1 k b.1 b.2 true) hplan ?_
            dsimp only
            refine Ev.bind (f := fun k t => (q06_Lists.f k ls t).bind fun c => if c = true then l22_ContentAlone.j1 k (ls.map ref1) ls (((ls.map ref1).length : Int) != (ls.length : Int)) else l22_ContentAlone.j1 k (ls.map ref1) ls true) hsp ?_
            refine Ev.bind (f := fun k c => if c = true then l22_ContentAlone.j1 k (ls.map ref1) ls (((ls.map ref1).length : Int) != (ls.length : Int)) else l22_ContentAlone.j1 k (ls.map ref1) ls true) hlist ?_
            refine Ev.congr (fun k => ?_) hj1
            rw [if_pos rfl, hlen]
        refine Ev.congr (fun k => ?_) hj0
        unfold l22_ContentAlone.f
        rw [ofN_length, if_neg (by omega), decide_eq_false ha]
  obtain ⟨k, hk⟩ := hfin
  exact ⟨k, hk k (Nat.le_refl _)⟩
end Go.Proofs.Ytjjbofbkpmabbaa.Pure
