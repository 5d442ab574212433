import Derived.Test.YtoobchhfcobbpaaDoorSweepA
import Derived.Test.YtoobchhfcobbpaaDoorSweepH
import Derived.Test.YtoobchhfcobbpaaDoorHx0
import Derived.Test.YtoobchhfcobbpaaDoorHx15
namespace Go.Proofs.YtoobchhfcobbpaaDoor.Pure
open Go.RowKit Go.Proofs.YtoobchhfcobbpaaDoor.Fn Go.Proofs.YtoobchhfcobbpaaDoorW.PrintWords Go.Proofs.YtoobchhfcobbpaaDoorW.PrintLast
theorem clean_great (l : List Ent) (seen : List ByteArray) (pack used : Int) : Ev (fun k => l25_SweepClean.j0 k l seen pack used true) true :=
  Ev.step (f := fun k => (l25_heads.f k).bind fun t => some t) (fun k => by simp only [l25_SweepClean.j0]; rw [if_pos (by trivial)]) (Ev.bind heads_ev (Ev.now _))
theorem hasText_iff (l : List ByteArray) (x : ByteArray) : hasText l x = true ↔ ∃ y ∈ l, y.toList = x.toList := by
  unfold hasText isText
  rw [List.any_eq_true]
  simp
theorem dead_has (l : List Ent) (seen : List ByteArray) (hx : isIndex l = true) (x : Ent) (hm : x ∈ l) : hasText (deadOf l seen) x.f0 = !hasText seen x.f0 := by
  unfold deadOf
  rw [if_pos hx]
  cases hh : hasText seen x.f0 with
  | false =>
    exact (hasText_iff _ _).2 ⟨x.f0, List.mem_map.2 ⟨x, List.mem_filter.2 ⟨hm, by rw [hh]; rfl⟩, rfl⟩, rfl⟩
  | true =>
    rw [Bool.not_true, Bool.eq_false_iff]
    intro h
    obtain ⟨y, hy, he⟩ := (hasText_iff _ _).1 h
    obtain ⟨z, hz, rfl⟩ := List.mem_map.1 hy
    have hz2 := (List.mem_filter.1 hz).2
    obtain ⟨s, hs, he2⟩ := (hasText_iff _ _).1 hh
    have : hasText seen z.f0 = true := (hasText_iff _ _).2 ⟨s, hs, by rw [he2, he]⟩
    rw [this] at hz2; cases hz2
theorem filter_split (l : List Ent) (p q : Ent → Bool) : (l.filter p).length = (l.filter fun x => p x && q x).length + (l.filter fun x => p x && !q x).length := by
  induction l with
  | nil => rfl
  | cons x l ih =>
    simp only [List.filter_cons]
    cases p x <;> cases q x <;> simp <;> omega
theorem any_filter (l : List Ent) (p : Ent → Bool) : l.any p = decide ((l.filter p).length ≠ 0) := by
  induction l with
  | nil => rfl
  | cons x l ih =>
    rw [List.any_cons, ih, List.filter_cons]
    cases p x <;> simp
abbrev onPack (pack : Int) (x : Ent) : Bool := decide (x.f1 = pack)
theorem clean_end (l : List Ent) (seen : List ByteArray) (pack used : Int) (hx : isIndex l = true) :
    Ev (fun k => if ((liveOf l seen pack).length : Int) = ((l.filter (onPack pack)).length : Int) then (if (((dirtyOf l seen [pack] [used]).length : Int) == 0) == (decide (used ≤ packSum l pack)) then (if (((l.filter fun x => !hasText seen x.f0).length : Int)) = ((deadOf l seen).length : Int) then ((l25_heads.f k).bind fun t => (some t)) else (some false)) else (some false)) else (if ((((dirtyOf l seen [pack] [used]).length : Int) == 0) == false) = true then (if (((l.filter fun x => !hasText seen x.f0).length : Int)) = ((deadOf l seen).length : Int) then ((l25_heads.f k).bind fun t => (some t)) else (some false)) else (some false))) true := by
  have hdead : (deadOf l seen).length = (l.filter fun x => !hasText seen x.f0).length := by rw [deadOf, if_pos hx, List.length_map]
  have hlive : (liveOf l seen pack).length = (l.filter fun x => onPack pack x && hasText seen x.f0).length := by rw [liveOf, if_pos hx, List.length_map]
  have hsp := filter_split l (onPack pack) (fun x => hasText seen x.f0)
  have hany := any_filter l (fun x => onPack pack x && !hasText seen x.f0)
  have hdirty : (dirtyOf l seen [pack] [used]).length = if isDirty l seen pack used then 1 else 0 := by
    rw [dirtyOf, if_pos hx]
    cases h : isDirty l seen pack used <;> simp [h]
  by_cases hn : (liveOf l seen pack).length = (l.filter (onPack pack)).length
  · have hno : (l.any fun x => onPack pack x && !hasText seen x.f0) = false := by rw [hany]; exact decide_eq_false (by omega)
    have hd : isDirty l seen pack used = decide (packSum l pack < used) := by unfold isDirty; rw [hno, Bool.false_or]
    have heq : ((((dirtyOf l seen [pack] [used]).length : Int) == 0) == (decide (used ≤ packSum l pack))) = true := by
      rw [hdirty, hd]
      by_cases hu : packSum l pack < used
      · rw [decide_eq_true hu, decide_eq_false (by omega)]; rfl
      · rw [decide_eq_false hu, decide_eq_true (by omega)]; rfl
    exact Ev.congr (fun k => by rw [if_pos (by omega), if_pos heq, if_pos (by omega)]) (Ev.bind heads_ev (Ev.now _))
  · have hyes : (l.any fun x => onPack pack x && !hasText seen x.f0) = true := by rw [hany]; exact decide_eq_true (by omega)
    have hd : isDirty l seen pack used = true := by unfold isDirty; rw [hyes, Bool.true_or]
    exact Ev.congr (fun k => by rw [if_neg (by omega), if_pos (by rw [hdirty, hd]; rfl), if_pos (by omega)]) (Ev.bind heads_ev (Ev.now _))
theorem clean_loop (l : List Ent) (seen : List ByteArray) (pack used : Int) (hl : l.length ≤ 300) (hs : seen.length ≤ 300) (hx : isIndex l = true) (d : Nat) : ∀ i : Nat, i + d = l.length →
    Ev (fun k => l25_SweepClean.l0 k l seen pack used (dirtyOf l seen [pack] [used]) (liveOf l seen pack) (deadOf l seen) (((l.take i).filter (onPack pack)).length : Int) (packSum (l.take i) pack) (((l.take i).filter fun x => !hasText seen x.f0).length : Int) (i : Int)) true := by
  have d3 : (deadOf l seen).length ≤ 300 := by rw [deadOf, if_pos hx, List.length_map]; exact Nat.le_trans (List.length_filter_le _ _) hl
  induction d with
  | zero =>
    intro i hi
    obtain rfl : i = l.length := by omega
    rw [List.take_length]
    refine Ev.step (fun k => ?_) (clean_end l seen pack used hx)
    simp only [l25_SweepClean.l0]
    rw [if_neg (by omega)]
  | succ d ih =>
    intro i hi
    have hlt : i < l.length := by omega
    have ht := take_one l i hlt
    have hnext := ih (i + 1) (by omega)
    have hsum := packSum_snoc (l.take i) l[i] pack
    rw [← ht] at hsum
    have hn : ((l.take (i + 1)).filter (onPack pack)).length = ((l.take i).filter (onPack pack)).length + if l[i].f1 = pack then 1 else 0 := by
      rw [ht, List.filter_append, List.length_append, List.filter_cons]
      by_cases h : l[i].f1 = pack <;> simp [onPack, h]
    have hg : ((l.take (i + 1)).filter fun x => !hasText seen x.f0).length = ((l.take i).filter fun x => !hasText seen x.f0).length + if hasText seen l[i].f0 = true then 0 else 1 := by
      rw [ht, List.filter_append, List.length_append, List.filter_cons]
      cases hasText seen l[i].f0 <;> simp
    have b1 : ((l.take i).filter (onPack pack)).length ≤ i := Nat.le_trans (List.length_filter_le _ _) (by rw [List.length_take]; omega)
    have b2 : ((l.take i).filter fun x => !hasText seen x.f0).length ≤ i := Nat.le_trans (List.length_filter_le _ _) (by rw [List.length_take]; omega)
    have hdh := dead_has l seen hx l[i] (List.getElem_mem hlt)
    rw [hsum, hn, hg] at hnext
    generalize ((l.take i).filter (onPack pack)).length = n at b1 hnext ⊢
    generalize ((l.take i).filter fun x => !hasText seen x.f0).length = g at b2 hnext ⊢
    generalize packSum (l.take i) pack = s at hnext ⊢
    clear ih hn hg hsum
    have h3 : ∀ (n' s' g' : Int), Ev (fun k => l25_SweepClean.l0 k l seen pack used (dirtyOf l seen [pack] [used]) (liveOf l seen pack) (deadOf l seen) n' s' g' ((i + 1 : Nat) : Int)) true →
        Ev (fun k => l25_SweepClean.j3 k l seen pack used (dirtyOf l seen [pack] [used]) (liveOf l seen pack) (deadOf l seen) n' s' g' (i : Int)) true := by
      intro n' s' g' h
      refine Ev.step (f := fun k => (q07_Find.f k (deadOf l seen) l[i].f0).bind fun t496 => (q07_Find.f k seen l[i].f0).bind fun t498 => if ((decide (t496 < 0)) != (decide (t498 ≥ 0))) = true then some false else l25_SweepClean.l0 k l seen pack used (dirtyOf l seen [pack] [used]) (liveOf l seen pack) (deadOf l seen) n' s' g' ((i + 1 : Nat) : Int)) (fun k => ?_) ?_
      · simp only [l25_SweepClean.j3]
        rw [if_pos (by omega), if_pos (by omega), rdE l i hlt, wrap_succ i l.length hlt (by omega)]
      · refine Ev.bind (ref07_Find_ev _ l[i].f0 (by omega)) (Ev.bind (ref07_Find_ev _ l[i].f0 (by omega)) ?_)
        refine Ev.congr (fun k => if_neg ?_) h
        cases hh : hasText seen l[i].f0 with
        | true =>
          rw [hh] at hdh
          rw [decide_eq_true ((find_lt _ _).2 hdh), decide_eq_true ((find_ge _ _).2 hh)]; decide
        | false =>
          rw [hh] at hdh
          rw [decide_eq_false (fun h => by rw [(find_lt _ _).1 h] at hdh; cases hdh), decide_eq_false (fun h => by rw [(find_ge _ _).1 h] at hh; cases hh)]; decide
    have h2 : ∀ (g' : Int), Ev (fun k => l25_SweepClean.l0 k l seen pack used (dirtyOf l seen [pack] [used]) (liveOf l seen pack) (deadOf l seen) ((n + if l[i].f1 = pack then 1 else 0 : Nat) : Int) (if l[i].f1 = pack then wrap64 (s + l[i].f3) else s) g' ((i + 1 : Nat) : Int)) true →
        Ev (fun k => l25_SweepClean.j2 k l seen pack used (dirtyOf l seen [pack] [used]) (liveOf l seen pack) (deadOf l seen) (n : Int) s g' (i : Int)) true := by
      intro g' h
      by_cases hp : l[i].f1 = pack
      · rw [if_pos hp, if_pos hp] at h
        refine Ev.step (fun k => ?_) (h3 _ _ _ h)
        simp only [l25_SweepClean.j2]
        rw [if_pos (by omega), if_pos (by omega), rdE l i hlt, if_pos hp, show wrap64 ((n : Int) + 1) = ((n + 1 : Nat) : Int) by unfold wrap64; omega]
      · rw [if_neg hp, if_neg hp, Nat.add_zero] at h
        refine Ev.step (fun k => ?_) (h3 _ _ _ h)
        simp only [l25_SweepClean.j2]
        rw [if_pos (by omega), if_pos (by omega), rdE l i hlt, if_neg hp]
    refine Ev.step (f := fun k => (q07_Find.f k (deadOf l seen) l[i].f0).bind fun t492 => if t492 ≥ 0 then l25_SweepClean.j2 k l seen pack used (dirtyOf l seen [pack] [used]) (liveOf l seen pack) (deadOf l seen) (n : Int) s ((g + 1 : Nat) : Int) (i : Int) else l25_SweepClean.j2 k l seen pack used (dirtyOf l seen [pack] [used]) (liveOf l seen pack) (deadOf l seen) (n : Int) s (g : Int) (i : Int)) (fun k => ?_) ?_
    · simp only [l25_SweepClean.l0]
      rw [if_pos (by omega), if_pos (by omega), rdE l i hlt, show wrap64 ((g : Int) + 1) = ((g + 1 : Nat) : Int) by unfold wrap64; omega]
    · refine Ev.bind (ref07_Find_ev _ l[i].f0 (by omega)) ?_
      cases hh : hasText seen l[i].f0 with
      | true =>
        rw [hh] at hdh hnext
        rw [if_pos rfl, Nat.add_zero] at hnext
        exact Ev.congr (fun k => if_neg (fun h => by rw [(find_ge _ _).1 h] at hdh; cases hdh)) (h2 _ hnext)
      | false =>
        rw [hh] at hdh hnext
        rw [if_neg (by decide : ¬ (false = true))] at hnext
        exact Ev.congr (fun k => if_pos ((find_ge _ _).2 hdh)) (h2 _ hnext)
theorem SweepClean : l25_SweepClean.Pure := by
  intro l seen pack used _ _ _ _
  refine Ev.rounds ?_
  by_cases h1 : (l.length : Int) > 300
  · exact Ev.congr (fun k => by unfold l25_SweepClean.f; rw [if_pos h1]) (clean_great l seen pack used)
  · by_cases h2 : (seen.length : Int) > 300
    · exact Ev.congr (fun k => by unfold l25_SweepClean.f; rw [if_neg h1, if_pos h2]) (clean_great l seen pack used)
    · cases hx : isIndex l with
      | false => exact Ev.congr (fun k => by unfold l25_SweepClean.f q14_Check.f; rw [if_neg h1, if_neg h2, Option.bind_some, hx]; rfl) (clean_great l seen pack used)
      | true =>
        have h : Ev (fun k => l25_SweepClean.j0 k l seen pack used false) true := by
          refine Ev.step (fun k => ?_) (clean_loop l seen pack used (by omega) (by omega) hx l.length 0 (by omega))
          simp only [l25_SweepClean.j0, sweep_Dirty.f, sweep_Live.f, sweep_Dead.f]
          rw [if_neg (by decide), if_pos ⟨by omega, by simp⟩, if_pos (by omega), if_pos (by omega)]; rfl
        exact Ev.congr (fun k => by unfold l25_SweepClean.f q14_Check.f; rw [if_neg h1, if_neg h2, Option.bind_some, hx]; rfl) h
end Go.Proofs.YtoobchhfcobbpaaDoor.Pure
