import Derived.Test.YtoobchhfcobbpaaDoorO
import Derived.Test.YtoobchhfcobbpaaDoorHx0
import Derived.Test.YtoobchhfcobbpaaDoorHx1
import Derived.Test.YtoobchhfcobbpaaDoorHx3
import Derived.Test.YtoobchhfcobbpaaDoorHx4
import Derived.Test.YtoobchhfcobbpaaDoorHx5
import Derived.Test.YtoobchhfcobbpaaDoorHx12
import Derived.Test.YtoobchhfcobbpaaDoorHx13
import Derived.Test.YtoobchhfcobbpaaDoorHx14
namespace Go.Proofs.YtoobchhfcobbpaaDoor.Pure
open Go.RowKit Go.Proofs.YtoobchhfcobbpaaDoor.Fn Go.Proofs.YtoobchhfcobbpaaDoorW.PrintWords Go.Proofs.YtoobchhfcobbpaaDoorW.PrintLast
abbrev Ent := S36
theorem rdE (l : List Ent) (i : Nat) (h : i < l.length) : rd_T36 l (i : Int) = l[i] := by simp [rd_T36, h]
theorem take_one {α : Type} (l : List α) (i : Nat) (h : i < l.length) : l.take (i + 1) = l.take i ++ [l[i]] := by rw [List.take_add_one, List.getElem?_eq_getElem h]; rfl
theorem find_lt (l : List ByteArray) (x : ByteArray) : (idxOf (isText x) l < 0) ↔ hasText l x = false := by
  have h := idxOf_ge (isText x) l
  unfold hasText
  rw [← h]
  simp
theorem find_ge (l : List ByteArray) (x : ByteArray) : (idxOf (isText x) l ≥ 0) ↔ hasText l x = true := by
  have h := idxOf_ge (isText x) l
  unfold hasText
  rw [← h]
  simp
theorem dirty_loop (l : List Ent) (seen : List ByteArray) (p u : Int) (hl : l.length ≤ 9223372036854775807) (hs : seen.length ≤ 9223372036854775807) (d : Nat) : ∀ i : Nat, i + d = l.length → ((l.take i).any fun x => decide (x.f1 = p) && !hasText seen x.f0) = false →
    Ev (fun k => q25_dirty.l0 k l seen p u (packSum (l.take i) p) (i : Int)) (isDirty l seen p u) := by
  induction d with
  | zero =>
    intro i hi hn
    obtain rfl : i = l.length := by omega
    rw [List.take_length] at hn ⊢
    refine Ev.step (f := fun _ => some (decide (u > packSum l p))) (fun k => ?_) ?_
    · simp only [q25_dirty.l0]; rw [if_neg (by omega)]
    · have : isDirty l seen p u = decide (u > packSum l p) := by unfold isDirty; rw [hn, Bool.false_or]
      rw [this]; exact Ev.now _
  | succ d ih =>
    intro i hi hn
    have hlt : i < l.length := by omega
    have ht := take_one l i hlt
    have hsum := packSum_snoc (l.take i) l[i] p
    rw [← ht] at hsum
    have hany : ((l.take (i + 1)).any fun x => decide (x.f1 = p) && !hasText seen x.f0) = (decide (l[i].f1 = p) && !hasText seen l[i].f0) := by rw [ht, List.any_append, hn]; simp
    by_cases hp : l[i].f1 = p
    · rw [if_pos hp] at hsum
      rw [decide_eq_true hp, Bool.true_and] at hany
      refine Ev.step (f := fun k => (q07_Find.f k seen l[i].f0).bind fun t => if t < 0 then some true else q25_dirty.l0 k l seen p u (packSum (l.take (i + 1)) p) ((i + 1 : Nat) : Int)) (fun k => ?_) ?_
      · simp only [q25_dirty.l0]
        rw [if_pos (by omega), if_pos (by omega), rdE l i hlt, if_pos hp, hsum, wrap_succ i l.length hlt hl]
      · refine Ev.bind (ref07_Find_ev seen l[i].f0 hs) ?_
        cases hh : hasText seen l[i].f0 with
        | false =>
          have hd : isDirty l seen p u = true := by
            unfold isDirty
            rw [List.any_eq_true.2 ⟨l[i], List.getElem_mem hlt, by rw [decide_eq_true hp, hh]; rfl⟩, Bool.true_or]
          rw [hd]
          exact Ev.congr (fun k => if_pos ((find_lt _ _).2 hh)) (Ev.now _)
        | true =>
          exact Ev.congr (fun k => if_neg (fun h => by rw [(find_lt _ _).1 h] at hh; cases hh)) (ih (i + 1) (by omega) (by rw [hany, hh]; rfl))
    · rw [if_neg hp] at hsum
      rw [decide_eq_false hp, Bool.false_and] at hany
      refine Ev.step (fun k => ?_) (ih (i + 1) (by omega) hany)
      simp only [q25_dirty.l0]
      rw [if_pos (by omega), if_pos (by omega), rdE l i hlt, if_neg hp, hsum, wrap_succ i l.length hlt hl]
theorem ref25_dirty_ev (l : List Ent) (seen : List ByteArray) (p u : Int) (hl : l.length ≤ 9223372036854775807) (hs : seen.length ≤ 9223372036854775807) : Ev (fun k => q25_dirty.f k l seen p u) (isDirty l seen p u) :=
  dirty_loop l seen p u hl hs l.length 0 (by omega) rfl
theorem Dirty_loop (l : List Ent) (seen : List ByteArray) (packs used : List Int) (hl : l.length ≤ 9223372036854775807) (hs : seen.length ≤ 9223372036854775807) (hp : packs.length < 17592186044416) (_hu : used.length ≤ 9223372036854775807) (hx : isIndex l = true) (d : Nat) : ∀ i : Nat, i + d = min packs.length used.length →
    Ev (fun k => q25_Dirty.l0 k l seen packs used ((((packs.zip used).take i).filter fun z => isDirty l seen z.1 z.2).map (·.1)) (i : Int)) (dirtyOf l seen packs used) := by
  have hz : (packs.zip used).length = min packs.length used.length := List.length_zip
  induction d with
  | zero =>
    intro i hi
    have hall : (((packs.zip used).take i).filter fun z => isDirty l seen z.1 z.2).map (·.1) = dirtyOf l seen packs used := by
      rw [List.take_of_length_le (by omega), dirtyOf, if_pos hx]
    rw [hall]
    have hj : Ev (fun k => q25_Dirty.j1 k l seen packs used (dirtyOf l seen packs used) (i : Int) false) (dirtyOf l seen packs used) :=
      Ev.step (f := fun _ => some (dirtyOf l seen packs used)) (fun k => by simp only [q25_Dirty.j1]; rw [if_neg (by decide)]) (Ev.now _)
    refine Ev.step (fun k => ?_) hj
    simp only [q25_Dirty.l0]
    by_cases h1 : i < packs.length
    · rw [if_pos (by omega), if_neg (by omega)]
    · rw [if_neg (by omega)]
  | succ d ih =>
    intro i hi
    have h1 : i < packs.length := by omega
    have h2 : i < used.length := by omega
    have hzi : (packs.zip used)[i]'(by omega) = (packs[i], used[i]) := List.getElem_zip
    have hto := take_one (packs.zip used) i (by omega)
    rw [hzi] at hto
    have hlen : ((((packs.zip used).take i).filter fun z => isDirty l seen z.1 z.2).map (·.1)).length < 17592186044416 := by
      have h := List.length_filter_le (fun z : Int × Int => isDirty l seen z.1 z.2) ((packs.zip used).take i)
      rw [List.length_map]; rw [List.length_take] at h; omega
    have hnext := ih (i + 1) (by omega)
    rw [hto, List.filter_append, List.map_append] at hnext
    generalize ((((packs.zip used).take i).filter fun z => isDirty l seen z.1 z.2).map (·.1)) = acc at hlen hnext ⊢
    have hj : Ev (fun k => q25_Dirty.j1 k l seen packs used acc (i : Int) true) (dirtyOf l seen packs used) := by
      refine Ev.step (f := fun k => (q25_dirty.f k l seen packs[i] used[i]).bind fun t => if t = true then q25_Dirty.l0 k l seen packs used (acc ++ [packs[i]]) ((i + 1 : Nat) : Int) else q25_Dirty.l0 k l seen packs used acc ((i + 1 : Nat) : Int)) (fun k => ?_) ?_
      · simp only [q25_Dirty.j1]
        rw [if_pos (by trivial), if_pos (by omega), if_pos (by omega), if_pos (by omega), rd_at packs i h1, rd_at used i h2, wrap_succ i packs.length h1 (by omega)]
        congr 1; funext t; rw [if_pos hlen]
      · refine Ev.bind (ref25_dirty_ev l seen packs[i] used[i] hl hs) ?_
        cases hd : isDirty l seen packs[i] used[i] with
        | true => rw [List.filter_cons, if_pos hd] at hnext; exact Ev.congr (fun k => if_pos rfl) hnext
        | false => rw [List.filter_cons, if_neg (by rw [hd]; decide), List.filter_nil, List.map_nil, List.append_nil] at hnext; exact Ev.congr (fun k => if_neg (by decide)) hnext
    refine Ev.step (fun k => ?_) hj
    simp only [q25_Dirty.l0, q14_Check.f, Option.bind_some, hx]
    rw [if_pos (by omega), if_pos (by omega)]
theorem ref25_Dirty_ev (l : List Ent) (seen : List ByteArray) (packs used : List Int) (hl : l.length ≤ 9223372036854775807) (hs : seen.length ≤ 9223372036854775807) (hp : packs.length < 17592186044416) (hu : used.length ≤ 9223372036854775807) :
    Ev (fun k => q25_Dirty.f k l seen packs used) (dirtyOf l seen packs used) := by
  cases hx : isIndex l with
  | true => exact Dirty_loop l seen packs used hl hs hp hu hx (min packs.length used.length) 0 (by omega)
  | false =>
    have hd : dirtyOf l seen packs used = [] := by rw [dirtyOf, hx]; rfl
    rw [hd]
    have hj : Ev (fun k => q25_Dirty.j1 k l seen packs used [] 0 false) [] :=
      Ev.step (f := fun _ => some []) (fun k => by simp only [q25_Dirty.j1]; rw [if_neg (by decide)]) (Ev.now _)
    refine Ev.step (fun k => ?_) hj
    simp only [q25_Dirty.f, q25_Dirty.l0, q14_Check.f, Option.bind_some, hx]
    split
    · split <;> rfl
    · rfl
theorem Live_loop (l : List Ent) (seen : List ByteArray) (pack : Int) (hl : l.length < 2932031007402) (hs : seen.length ≤ 9223372036854775807) (hx : isIndex l = true) (d : Nat) : ∀ i : Nat, i + d = l.length →
    Ev (fun k => q25_Live.l0 k l seen pack (((l.take i).filter fun x => decide (x.f1 = pack) && hasText seen x.f0).map (·.f0)) (i : Int)) (liveOf l seen pack) := by
  induction d with
  | zero =>
    intro i hi
    obtain rfl : i = l.length := by omega
    have hall : ((l.take l.length).filter fun x => decide (x.f1 = pack) && hasText seen x.f0).map (·.f0) = liveOf l seen pack := by rw [List.take_length, liveOf, if_pos hx]
    rw [hall]
    have hj : Ev (fun k => q25_Live.j1 k l seen pack (liveOf l seen pack) (l.length : Int) false) (liveOf l seen pack) :=
      Ev.step (f := fun _ => some (liveOf l seen pack)) (fun k => by simp only [q25_Live.j1]; rw [if_neg (by decide)]) (Ev.now _)
    refine Ev.step (fun k => ?_) hj
    simp only [q25_Live.l0]; rw [if_neg (by omega)]
  | succ d ih =>
    intro i hi
    have hlt : i < l.length := by omega
    have hto := take_one l i hlt
    have hlen : (((l.take i).filter fun x => decide (x.f1 = pack) && hasText seen x.f0).map (·.f0)).length < 8796093022208 := by
      have h := List.length_filter_le (fun x : Ent => decide (x.f1 = pack) && hasText seen x.f0) (l.take i)
      rw [List.length_map]; rw [List.length_take] at h; omega
    have hnext := ih (i + 1) (by omega)
    rw [hto, List.filter_append, List.map_append] at hnext
    generalize (((l.take i).filter fun x => decide (x.f1 = pack) && hasText seen x.f0).map (·.f0)) = acc at hlen hnext ⊢
    have hj : Ev (fun k => q25_Live.j1 k l seen pack acc (i : Int) true) (liveOf l seen pack) := by
      by_cases hp : l[i].f1 = pack
      · refine Ev.step (f := fun k => (q07_Find.f k seen l[i].f0).bind fun t => if t ≥ 0 then q25_Live.l0 k l seen pack (acc ++ [l[i].f0]) ((i + 1 : Nat) : Int) else q25_Live.l0 k l seen pack acc ((i + 1 : Nat) : Int)) (fun k => ?_) ?_
        · simp only [q25_Live.j1]
          rw [if_pos (by trivial), if_pos (by omega), if_pos (by omega), rdE l i hlt, if_pos hp, wrap_succ i l.length hlt (by omega)]
          congr 1; funext t; rw [if_pos hlen]
        · refine Ev.bind (ref07_Find_ev seen l[i].f0 hs) ?_
          cases hh : hasText seen l[i].f0 with
          | true =>
            rw [List.filter_cons, if_pos (by rw [decide_eq_true hp, hh]; rfl)] at hnext
            exact Ev.congr (fun k => if_pos ((find_ge _ _).2 hh)) hnext
          | false =>
            rw [List.filter_cons, if_neg (by rw [hh, Bool.and_false]; decide), List.filter_nil, List.map_nil, List.append_nil] at hnext
            exact Ev.congr (fun k => if_neg (fun h => by rw [(find_ge _ _).1 h] at hh; cases hh)) hnext
      · rw [List.filter_cons, if_neg (by rw [decide_eq_false hp, Bool.false_and]; decide), List.filter_nil, List.map_nil, List.append_nil] at hnext
        refine Ev.step (fun k => ?_) hnext
        simp only [q25_Live.j1]
        rw [if_pos (by trivial), if_pos (by omega), if_pos (by omega), rdE l i hlt, if_neg hp, wrap_succ i l.length hlt (by omega)]
    refine Ev.step (fun k => ?_) hj
    simp only [q25_Live.l0, q14_Check.f, Option.bind_some, hx]
    rw [if_pos (by omega)]
theorem ref25_Live_ev (l : List Ent) (seen : List ByteArray) (pack : Int) (hl : l.length < 2932031007402) (hs : seen.length ≤ 9223372036854775807) : Ev (fun k => q25_Live.f k l seen pack) (liveOf l seen pack) := by
  cases hx : isIndex l with
  | true => exact Live_loop l seen pack hl hs hx l.length 0 (by omega)
  | false =>
    have hd : liveOf l seen pack = [] := by rw [liveOf, hx]; rfl
    rw [hd]
    have hj : Ev (fun k => q25_Live.j1 k l seen pack [] 0 false) [] :=
      Ev.step (f := fun _ => some []) (fun k => by simp only [q25_Live.j1]; rw [if_neg (by decide)]) (Ev.now _)
    refine Ev.step (fun k => ?_) hj
    simp only [q25_Live.f, q25_Live.l0, q14_Check.f, Option.bind_some, hx]
    split <;> rfl
theorem Dead_loop (l : List Ent) (seen : List ByteArray) (hl : l.length < 2932031007402) (hs : seen.length ≤ 9223372036854775807) (hx : isIndex l = true) (d : Nat) : ∀ i : Nat, i + d = l.length →
    Ev (fun k => q25_Dead.l0 k l seen (((l.take i).filter fun x => !hasText seen x.f0).map (·.f0)) (i : Int)) (deadOf l seen) := by
  induction d with
  | zero =>
    intro i hi
    obtain rfl : i = l.length := by omega
    have hall : ((l.take l.length).filter fun x => !hasText seen x.f0).map (·.f0) = deadOf l seen := by rw [List.take_length, deadOf, if_pos hx]
    rw [hall]
    have hj : Ev (fun k => q25_Dead.j1 k l seen (deadOf l seen) (l.length : Int) false) (deadOf l seen) :=
      Ev.step (f := fun _ => some (deadOf l seen)) (fun k => by simp only [q25_Dead.j1]; rw [if_neg (by decide)]) (Ev.now _)
    refine Ev.step (fun k => ?_) hj
    simp only [q25_Dead.l0]; rw [if_neg (by omega)]
  | succ d ih =>
    intro i hi
    have hlt : i < l.length := by omega
    have hto := take_one l i hlt
    have hlen : (((l.take i).filter fun x => !hasText seen x.f0).map (·.f0)).length < 8796093022208 := by
      have h := List.length_filter_le (fun x : Ent => !hasText seen x.f0) (l.take i)
      rw [List.length_map]; rw [List.length_take] at h; omega
    have hnext := ih (i + 1) (by omega)
    rw [hto, List.filter_append, List.map_append] at hnext
    generalize (((l.take i).filter fun x => !hasText seen x.f0).map (·.f0)) = acc at hlen hnext ⊢
    have hj : Ev (fun k => q25_Dead.j1 k l seen acc (i : Int) true) (deadOf l seen) := by
      refine Ev.step (f := fun k => (q07_Find.f k seen l[i].f0).bind fun t => if t < 0 then q25_Dead.l0 k l seen (acc ++ [l[i].f0]) ((i + 1 : Nat) : Int) else q25_Dead.l0 k l seen acc ((i + 1 : Nat) : Int)) (fun k => ?_) ?_
      · simp only [q25_Dead.j1]
        rw [if_pos (by trivial), if_pos (by omega), if_pos (by omega), rdE l i hlt, wrap_succ i l.length hlt (by omega)]
        congr 1; funext t; rw [if_pos hlen]
      · refine Ev.bind (ref07_Find_ev seen l[i].f0 hs) ?_
        cases hh : hasText seen l[i].f0 with
        | false =>
          rw [List.filter_cons, if_pos (by rw [hh]; rfl)] at hnext
          exact Ev.congr (fun k => if_pos ((find_lt _ _).2 hh)) hnext
        | true =>
          rw [List.filter_cons, if_neg (by rw [hh]; decide), List.filter_nil, List.map_nil, List.append_nil] at hnext
          exact Ev.congr (fun k => if_neg (fun h => by rw [(find_lt _ _).1 h] at hh; cases hh)) hnext
    refine Ev.step (fun k => ?_) hj
    simp only [q25_Dead.l0, q14_Check.f, Option.bind_some, hx]
    rw [if_pos (by omega)]
theorem ref25_Dead_ev (l : List Ent) (seen : List ByteArray) (hl : l.length < 2932031007402) (hs : seen.length ≤ 9223372036854775807) : Ev (fun k => q25_Dead.f k l seen) (deadOf l seen) := by
  cases hx : isIndex l with
  | true => exact Dead_loop l seen hl hs hx l.length 0 (by omega)
  | false =>
    have hd : deadOf l seen = [] := by rw [deadOf, hx]; rfl
    rw [hd]
    have hj : Ev (fun k => q25_Dead.j1 k l seen [] 0 false) [] :=
      Ev.step (f := fun _ => some []) (fun k => by simp only [q25_Dead.j1]; rw [if_neg (by decide)]) (Ev.now _)
    refine Ev.step (fun k => ?_) hj
    simp only [q25_Dead.f, q25_Dead.l0, q14_Check.f, Option.bind_some, hx]
    split <;> rfl
end Go.Proofs.YtoobchhfcobbpaaDoor.Pure
