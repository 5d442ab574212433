/- SpaceTwo: what is taken twice does not overlap, and given back the row is as it was: at every row (of at most 600 slots; a longer one is told the heads alone) and every two numbers. No condition besides the reader's own bound on lengths. -/
import Derived.Test.YtijipdpeojpbgaaSpaceA
import Derived.Test.YtijipdpeojpbgaaHx0
import Derived.Test.YtijipdpeojpbgaaHx3
namespace Go.Proofs.Ytijipdpeojpbgaa.Pure
open Go.RowKit Go.Proofs.Ytijipdpeojpbgaa.Fn Go.Proofs.YtijipdpeojpbgaaW.PrintWords Go.Proofs.YtijipdpeojpbgaaW.PrintLast Go.Proofs.Ytijipdpeojpbgaa.SpaceA
open Go.Proofs.YtijipdpeojpbgaaW.PrintWords.Kd (clr clr_length)

theorem back {l : List Bool} {a n b m : Nat} (ha : a + n ≤ l.length) (hb : b + m ≤ l.length) (h1 : ∀ j, a ≤ j → j < a + n → l[j]? = some false) (h2 : ∀ j, b ≤ j → j < b + m → (clr true l a n)[j]? = some false) :
    (∀ j, ¬ (a ≤ j ∧ j < a + n ∧ b ≤ j ∧ j < b + m)) ∧ clr false (clr false (clr true (clr true l a n) b m) a n) b m = l := by
  have hd : ∀ j, ¬ (a ≤ j ∧ j < a + n ∧ b ≤ j ∧ j < b + m) := by
    rintro j ⟨p1, p2, p3, p4⟩
    have := h2 j p3 p4
    rw [clr_get, if_pos ⟨p1, p2, by omega⟩] at this
    simp at this
  refine ⟨hd, ?_⟩
  apply List.ext_getElem?
  intro j
  have hdj := hd j
  simp only [clr_get, clr_length]
  by_cases hj : j < l.length
  · by_cases hA : a ≤ j ∧ j < a + n
    · have hnb : ¬ (b ≤ j ∧ j < b + m ∧ j < l.length) := by omega
      rw [if_neg hnb, if_pos ⟨hA.1, hA.2, hj⟩, h1 j hA.1 hA.2]
    · have hna : ¬ (a ≤ j ∧ j < a + n ∧ j < l.length) := by omega
      by_cases hB : b ≤ j ∧ j < b + m
      · have h3 := h2 j hB.1 hB.2
        rw [clr_get, if_neg hna] at h3
        rw [if_pos ⟨hB.1, hB.2, hj⟩, h3]
      · have hnb : ¬ (b ≤ j ∧ j < b + m ∧ j < l.length) := by omega
        rw [if_neg hnb, if_neg hna, if_neg hnb, if_neg hna]
  · have hna : ¬ (a ≤ j ∧ j < a + n ∧ j < l.length) := by omega
    have hnb : ¬ (b ≤ j ∧ j < b + m ∧ j < l.length) := by omega
    rw [if_neg hnb, if_neg hna, if_neg hnb, if_neg hna]
theorem SpaceTwo : palimpsestlaw10_SpaceTwo.Pure := by
  intro l n m _ hn hm
  have hn2 : n < 9223372036854775808 := by
    have h := hn
    simp [okInt, Lit.wf, IntKind.min, IntKind.max, IntKind.bits, IntKind.signed] at h
    omega
  have hm2 : m < 9223372036854775808 := by
    have h := hm
    simp [okInt, Lit.wf, IntKind.min, IntKind.max, IntKind.bits, IntKind.signed] at h
    omega
  obtain ⟨K9, h9⟩ := heads_ev
  dsimp only at h9
  by_cases hl : (l.length : Int) > 600
  · refine ⟨K9, ?_⟩
    unfold palimpsestlaw10_SpaceTwo.f
    rw [if_pos hl, h9 K9 (by omega)]
    rfl
  obtain ⟨r, ⟨hrl, hr⟩, K1, e1⟩ := take_ev l (by omega) n hn2
  obtain ⟨s, ⟨hsl, hs⟩, K2, e2⟩ := take_ev r.2.1 (by omega) m hm2
  dsimp only at e1 e2
  -- where one of both finds nothing, the heads are told
  have out : Ev (fun k => palimpsestlaw10_SpaceTwo.j0 k l n m r.1 s.1 s.2.1 true) true := by
    refine Ev.step (fun k => ?_) (Ev.congr (g := fun k => palimpsestlaw10_heads.f k) (fun _ => rfl) ⟨K9, h9⟩)
    simp only [palimpsestlaw10_SpaceTwo.j0]
    rw [if_pos trivial]
    cases palimpsestlaw10_heads.f k <;> rfl
  obtain ⟨K3, e3⟩ := out
  dsimp only at e3
  have start : ∀ K, K1 ≤ K → K2 ≤ K → palimpsestlaw10_SpaceTwo.f K l n m = (if r.2.2 = 0 then palimpsestlaw10_SpaceTwo.j0 K l n m r.1 s.1 s.2.1 (s.2.2 != 0) else palimpsestlaw10_SpaceTwo.j0 K l n m r.1 s.1 s.2.1 true) := by
    intro K q1 q2
    unfold palimpsestlaw10_SpaceTwo.f
    rw [if_neg hl, e1 K q1, Option.bind_some, e2 K q2, Option.bind_some]
  rcases hr with hr | ⟨a, n', rfl, hn1, han, hall, hre⟩
  · refine ⟨K1 + K2 + K3, ?_⟩
    rw [start _ (by omega) (by omega), if_neg hr]
    exact e3 (K1 + K2 + K3) (by omega)
  rcases hs with hs | ⟨b, m', rfl, hm1, hbm, hall2, hse⟩
  · refine ⟨K1 + K2 + K3, ?_⟩
    have hb : (s.2.2 != 0) = true := by simpa using hs
    rw [start _ (by omega) (by omega), hre, if_pos rfl, hb]
    have h := e3 (K1 + K2 + K3) (by omega)
    rw [hre] at h
    exact h
  subst hre
  subst hse
  dsimp only at hall2 hbm hrl hsl start e1 e2 hbm
  have hbm' : b + m' ≤ l.length := by rw [clr_length] at hbm; exact hbm
  obtain ⟨hd, hback⟩ := back han hbm' hall hall2
  have hy : (clr true (clr true l a n') b m').length = l.length := by rw [clr_length, clr_length]
  -- what is given back first
  have g1 := give_ev (clr true (clr true l a n') b m') (by omega) a n' hn1 (by omega) (fun j q1 q2 => by
    have := hd j
    rw [clr_get, if_neg (by omega), clr_get, if_pos ⟨q1, q2, by omega⟩])
  have hp : (clr false (clr true (clr true l a n') b m') a n').length = l.length := by rw [clr_length, hy]
  have g2 := give_ev (clr false (clr true (clr true l a n') b m') a n') (by omega) b m' hm1 (by omega) (fun j q1 q2 => by
    have := hd j
    rw [clr_get, if_neg (by omega), clr_get, if_pos ⟨q1, q2, by rw [clr_length]; omega⟩])
  rw [hback] at g2
  obtain ⟨K4, e4⟩ := g1
  obtain ⟨K5, e5⟩ := g2
  obtain ⟨K6, e6⟩ := same_ev l (by omega)
  obtain ⟨K7, e7⟩ := free_ev (clr true (clr true l a n') b m') (by omega)
  obtain ⟨K8, e8⟩ := free_ev l (by omega)
  dsimp only at e4 e5 e6 e7 e8
  have hh1 := holes_clr n' l a hall
  have hh2 := holes_clr m' (clr true l a n') b hall2
  have hh3 := holes_le l
  have hfree : ((holes (clr true (clr true l a n') b m') : Nat) : Int) = wrap64 (wrap64 (((holes l : Nat) : Int) - (n' : Int)) - (m' : Int)) := by
    rw [w64 (x := ((holes l : Nat) : Int) - (n' : Int)) (by omega) (by omega), w64 (by omega) (by omega)]
    omega
  have j1 : ∀ K, K4 + K5 + K6 + K7 + K8 + K9 ≤ K → palimpsestlaw10_SpaceTwo.j1 (K + 1) l (n' : Int) (m' : Int) (a : Int) (b : Int) (clr true (clr true l a n') b m') false = some true := by
    intro K hK
    simp only [palimpsestlaw10_SpaceTwo.j1]
    rw [if_neg (by decide), e4 K (by omega), Option.bind_some, e5 K (by omega), Option.bind_some, if_pos rfl, if_pos rfl, e6 K (by omega), Option.bind_some, if_pos rfl, e7 K (by omega), Option.bind_some, e8 K (by omega), Option.bind_some, if_pos hfree, h9 K (by omega)]
    rfl
  refine ⟨K1 + K2 + (K4 + K5 + K6 + K7 + K8 + K9) + 2, ?_⟩
  have d1 : ¬ ((a : Int) ≤ (b : Int) ∧ (b : Int) < (a : Int) + (n' : Int)) := by have := hd b; omega
  have d2 : ¬ ((b : Int) ≤ (a : Int) ∧ (a : Int) < (b : Int) + (m' : Int)) := by have := hd a; omega
  have w1 : wrap64 ((a : Int) + (n' : Int)) = (a : Int) + (n' : Int) := w64 (by omega) (by omega)
  have w2 : wrap64 ((b : Int) + (m' : Int)) = (b : Int) + (m' : Int) := w64 (by omega) (by omega)
  have hj := j1 (K1 + K2 + (K4 + K5 + K6 + K7 + K8 + K9)) (by clear w1 w2; omega)
  have s0 := start (K1 + K2 + (K4 + K5 + K6 + K7 + K8 + K9) + 2) (by clear w1 w2; omega) (by clear w1 w2; omega)
  rw [s0, if_pos rfl]
  simp only [palimpsestlaw10_SpaceTwo.j0]
  rw [if_neg (by decide), w1, w2]
  by_cases q1 : (a : Int) ≤ (b : Int)
  · have q2 : ¬ (b : Int) < (a : Int) + (n' : Int) := fun h => d1 ⟨q1, h⟩
    rw [if_pos q1, if_neg q2]
    by_cases q3 : (b : Int) ≤ (a : Int)
    · have q4 : ¬ (a : Int) < (b : Int) + (m' : Int) := fun h => d2 ⟨q3, h⟩
      rw [if_pos q3, decide_eq_false q4]
      exact hj
    · rw [if_neg q3]
      exact hj
  · rw [if_neg q1]
    by_cases q3 : (b : Int) ≤ (a : Int)
    · have q4 : ¬ (a : Int) < (b : Int) + (m' : Int) := fun h => d2 ⟨q3, h⟩
      rw [if_pos q3, decide_eq_false q4]
      exact hj
    · rw [if_neg q3]
      exact hj
end Go.Proofs.Ytijipdpeojpbgaa.Pure
