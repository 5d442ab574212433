import Derived.Test.YtoobchhfcobbpaaDoorO
import Derived.Test.YtoobchhfcobbpaaDoorHx0
import Derived.Test.YtoobchhfcobbpaaDoorHx1
import Derived.Test.YtoobchhfcobbpaaDoorHx3
import Derived.Test.YtoobchhfcobbpaaDoorHx4
import Derived.Test.YtoobchhfcobbpaaDoorHx5
import Derived.Test.YtoobchhfcobbpaaDoorHx12
import Derived.Test.YtoobchhfcobbpaaDoorHx13
import Derived.Test.YtoobchhfcobbpaaDoorHx14
namespace Go.Proofs.YtoobchhfcobbpaaDoor.Pure
open Go.RowKit Go.Proofs.YtoobchhfcobbpaaDoor.Fn Go.Proofs.YtoobchhfcobbpaaDoorW.PrintWords Go.Proofs.YtoobchhfcobbpaaDoorW.PrintLast
abbrev EntH := S36
def keyA : ByteArray := ⟨#[101, 51, 50, 53, 52, 101, 97, 54, 49, 99, 48, 57, 101, 97, 100, 53, 97, 48, 49, 100, 51, 98, 102, 48, 55, 101, 57, 52, 54, 97, 53, 54, 49, 99, 54, 99, 50, 99, 100, 49, 99, 52, 54, 98, 56, 99, 97, 49, 98, 102, 97, 56, 55, 50, 57, 100, 50, 54, 97, 55, 100, 48, 57, 102]⟩
def keyB : ByteArray := ⟨#[100, 100, 54, 98, 51, 54, 57, 57, 53, 52, 53, 51, 98, 102, 52, 52, 99, 57, 56, 100, 100, 54, 57, 49, 51, 57, 50, 97, 51, 98, 49, 100, 57, 53, 101, 54, 55, 50, 101, 48, 50, 53, 100, 56, 48, 50, 100, 51, 57, 48, 54, 52, 102, 56, 101, 51, 49, 56, 48, 52, 48, 54, 100, 57]⟩
abbrev entA : EntH := ⟨keyA, 3, 0, 8, 0⟩
abbrev entB : EntH := ⟨keyB, 3, 8, 8, 0⟩
set_option maxRecDepth 100000 in
theorem ofA : Ev (fun k => q07_Of.f k 1 ([97] : List Int)) keyA := Ev.of (q07_Of.mono _ _) (k := 400) (by decide +kernel)
set_option maxRecDepth 100000 in
theorem ofB : Ev (fun k => q07_Of.f k 1 ([98] : List Int)) keyB := Ev.of (q07_Of.mono _ _) (k := 400) (by decide +kernel)
theorem lessBA : Op.bytesLess keyB.toList keyA.toList = true := by rw [Lib.toList_data, Lib.toList_data]; decide +kernel
theorem lessAB : Op.bytesLess keyA.toList keyB.toList = false := bytesLess_asymm _ _ lessBA
theorem neAB : ¬ keyA.toList = keyB.toList := by rw [Lib.toList_data, Lib.toList_data]; decide +kernel
theorem rightA : isEntry entA = true := by decide +kernel
theorem rightB : isEntry entB = true := by decide +kernel
theorem indexA : isIndex [entA] = true := isIndex_true fun i hi => by
  obtain rfl : i = 0 := by simpa using hi
  show (isEntry entA && (true || _)) = true
  rw [rightA]; rfl
theorem indexB : isIndex [entB] = true := isIndex_true fun i hi => by
  obtain rfl : i = 0 := by simpa using hi
  show (isEntry entB && (true || _)) = true
  rw [rightB]; rfl
theorem indexBA : isIndex [entB, entA] = true := isIndex_true fun i hi => by
  have h : i = 0 ∨ i = 1 := by simp at hi; omega
  rcases h with rfl | rfl
  · show (isEntry entB && (true || _)) = true
    rw [rightB]; rfl
  · show (isEntry entA && (false || Op.bytesLess keyB.toList keyA.toList)) = true
    rw [rightA, lessBA]; rfl
theorem withA : Ev (fun k => q14_with.f k ([] : List EntH) keyA 3 0 8 0) [entA] := by
  have hp : Ev (fun k => q14_place.f k ([] : List EntH) keyA) 0 := Ev.step (f := fun _ => some 0) (fun _ => rfl) (Ev.now _)
  exact Ev.bind hp (Ev.now _)
theorem withB : Ev (fun k => q14_with.f k [entA] keyB 3 8 8 0) [entB, entA] := by
  have hp : Ev (fun k => q14_place.f k [entA] keyB) 0 := Ev.step (f := fun _ => some 0) (fun k => by
    show (if Op.bytesLess keyA.toList keyB.toList = true then _ else _) = _
    rw [lessAB]; rfl) (Ev.now _)
  refine Ev.bind hp (Ev.congr (fun k => ?_) (Ev.now _))
  show (if keyA.toList = keyB.toList then _ else _) = _
  rw [if_neg neAB]; rfl
theorem putA : Ev (fun k => q14_Put.f k ([] : List EntH) keyA 3 0 8 0) ([entA], 0) := by
  refine Ev.congr (fun k => ?_) (Ev.bind (f := fun _ t => some (t, (0 : Int))) withA (Ev.now _))
  show (q14_Check.f ([] : List EntH)).bind _ = _
  rw [show q14_Check.f ([] : List EntH) = some true from rfl, Option.bind_some, if_pos rfl, show q14_Check.f [entA] = some true from congrArg some indexA, Option.bind_some, if_pos rfl]
theorem putB : Ev (fun k => q14_Put.f k [entA] keyB 3 8 8 0) ([entB, entA], 0) := by
  refine Ev.congr (fun k => ?_) (Ev.bind (f := fun _ t => some (t, (0 : Int))) withB (Ev.now _))
  show (q14_Check.f [entA]).bind _ = _
  rw [show q14_Check.f [entA] = some true from congrArg some indexA, Option.bind_some, if_pos rfl, show q14_Check.f [entB] = some true from congrArg some indexB, Option.bind_some, if_pos rfl]
theorem seenA : hasText [keyA] keyA = true := by show (decide (keyA.toList = keyA.toList) || _) = true; rw [decide_eq_true rfl]; rfl
theorem seenB : hasText [keyA] keyB = false := by show (decide (keyA.toList = keyB.toList) || _) = false; rw [decide_eq_false neAB]; rfl
theorem liveH : liveOf [entB, entA] [keyA] 3 = [keyA] := by
  rw [liveOf, if_pos indexBA]
  show (([entB, entA].filter fun x => decide (x.f1 = 3) && hasText [keyA] x.f0).map (·.f0)) = _
  rw [List.filter_cons, if_neg (by show ¬ (true && hasText [keyA] keyB) = true; rw [seenB]; decide), List.filter_cons, if_pos (by show (true && hasText [keyA] keyA) = true; rw [seenA]; rfl)]; rfl
theorem deadH : deadOf [entB, entA] [keyA] = [keyB] := by
  rw [deadOf, if_pos indexBA, List.filter_cons, if_pos (by show (!hasText [keyA] keyB) = true; rw [seenB]; rfl), List.filter_cons, if_neg (by show ¬ (!hasText [keyA] keyA) = true; rw [seenA]; decide)]; rfl
theorem dirty2 : isDirty [entB, entA] [keyA] 2 0 = false := by
  unfold isDirty
  rw [List.any_cons, List.any_cons, List.any_nil]
  show ((false && _) || ((false && _) || false) || _) = false
  rfl
theorem dirty3 : isDirty [entB, entA] [keyA] 3 16 = true := by
  unfold isDirty
  rw [List.any_cons]
  show ((true && !hasText [keyA] keyB) || _ || _) = true
  rw [seenB]; rfl
theorem dirtyH : dirtyOf [entB, entA] [keyA] [2, 3] [0, 16] = [3] := by
  rw [dirtyOf, if_pos indexBA]
  show (([((2 : Int), (0 : Int)), (3, 16)].filter fun z => isDirty [entB, entA] [keyA] z.1 z.2).map (·.1)) = _
  rw [List.filter_cons, if_neg (by rw [dirty2]; decide), List.filter_cons, if_pos dirty3]; rfl
theorem next1 : nextOf [entB, entA] [keyA] 3 [] = (3, keyA) := by
  rw [nextOf, if_neg (by decide), liveH]
theorem next2 : (nextOf [entB, entA] [keyA] 3 [3]).1 = -1 := by
  rw [nextOf, if_pos (by decide)]
theorem heads_ev : Ev (fun k => l25_heads.f k) true := by
  refine Ev.bind ofA (Ev.bind ofB (Ev.bind putA (Ev.bind putB ?_)))
  have e1 : ∀ done, sweep_Next.f 2 ([] : List (S123)) [keyA] ([] : List EntH) [3] done false [entB, entA] = some (nextOf [entB, entA] [keyA] 3 done) := fun done => if_pos ⟨rfl, rfl, indexBA, by decide⟩
  have e2 : sweep_Dirty.f [entB, entA] [keyA] ([2, 3] : List Int) ([0, 16] : List Int) = some [3] := by rw [sweep_Dirty.f, if_pos (by decide), dirtyH]
  have e3 : sweep_Live.f [entB, entA] [keyA] 3 = some [keyA] := by rw [sweep_Live.f, if_pos (by decide), liveH]
  have e4 : sweep_Dead.f [entB, entA] [keyA] = some [keyB] := by rw [sweep_Dead.f, if_pos (by decide), deadH]
  refine Ev.congr (f := fun k => (q06_Ints.f k [3] [3]).bind fun t405 => if t405 = true then ((q07_Same.f k [keyA] [keyA]).bind fun t412 => if t412 = true then ((q07_Same.f k [keyB] [keyB]).bind fun t419 => if t419 = true then some true else some false) else some false) else some false) (fun k => ?_) ?_
  · rw [Option.bind_some, Option.bind_some]
    simp only [e1, e2, e3, e4, Option.bind_some, next1, next2]
    rfl
  · refine Ev.bind (ref06_Ints_ev [3] (by decide)) (Ev.congr (fun k => if_pos rfl) ?_)
    refine Ev.bind (ref07_Same_ev [keyA] (by decide)) (Ev.congr (fun k => if_pos rfl) ?_)
    exact Ev.bind (ref07_Same_ev [keyB] (by decide)) (Ev.congr (fun k => if_pos rfl) (Ev.now _))
end Go.Proofs.YtoobchhfcobbpaaDoor.Pure
