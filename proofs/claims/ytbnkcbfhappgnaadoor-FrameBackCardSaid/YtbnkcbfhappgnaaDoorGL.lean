/- From the row's condition to what a proof takes of it, and a world that meets the condition. -/
import Derived.Test.YtbnkcbfhappgnaaDoorRows
import Derived.Test.YtbnkcbfhappgnaaDoorG
import Derived.ChangeSame
import Derived.ChangeVars
import Derived.JoinedOf
import Derived.RowKit
import Derived.LaidLaws
import Derived.LaidHandle
import Derived.Lay
import Derived.MakeChecks
import Derived.Handed
import Derived.Stop.Joined
namespace Go.Proofs.YtbnkcbfhappgnaaDoor.Fn
open Go.ChangeShapes Go.WideShapes Go.RowKit Go.Proofs.YtbnkcbfhappgnaaDoorW.PrintWords
abbrev laid : List (String × DataW Unit) := [("errors.errorType", Rows.laid_errors_errorType)]
theorem gl_et : Tryd.prog.globalNamed "errors.errorType" = some 0 := by kernel_rfl
theorem gl_rt : (Tryd.prog.cutTypes.find? (·.1 == "internal/reflectlite.rtype")).map (·.2) = some 112 := by kernel_rfl
theorem gl_oneRow : ((List.range 172).filter fun t => Tryd.prog.rowNamed t [101, 114, 114, 111, 114]) = [58] := by kernel_rfl
theorem gl_size : Tryd.prog.types.size = 172 := by kernel_rfl
theorem glob_of_laid {W : World} (h : laidMetH Tryd.prog laid W) : Glob W := by
  have h' : laidMet Tryd.prog [] W ∧ handlesMet Tryd.prog [("errors.errorType", Rows.laid_errors_errorType)] W := h
  obtain ⟨name, u, ty, e1, e2, e3, e4, e5⟩ := h'.2 _ (List.mem_singleton.2 rfl)
  have en : name = [101, 114, 114, 111, 114] := (Option.some.inj e1).symm
  subst en
  obtain rfl := Option.some.inj (gl_rt.symm.trans e2)
  have hm : ty ∈ (List.range 172).filter fun t => Tryd.prog.rowNamed t [101, 114, 114, 111, 114] := List.mem_filter.2 ⟨List.mem_range.2 (by rw [← gl_size]; exact e3), e4⟩
  rw [gl_oneRow] at hm
  obtain rfl := List.mem_singleton.1 hm
  have hh : typeHandle Tryd.prog 58 = .pointer (some ⟨1, 58, none⟩) := by kernel_rfl
  rw [hh] at e5
  unfold Glob
  simpa using World.var?_cell gl_et e5 0
/-- The tables. -/
abbrev laidData : List (String × DataW Unit) := []
noncomputable def laidBase (os : Os) : World := 
  let w0 := World.holding Tryd.prog os ⟨#[], #[], []⟩
  { w0 with heap := w0.heap.modify 0 fun
      | .cells _ t frozen => .cells #[.iface 112 (.agg #[.pointer (some ⟨1, 58, none⟩)])] t frozen
      | o => o }
theorem layAll {w0 : World} {l : List (String × DataW Unit)} (args : Array Value) (hf : w0.layFits Tryd.prog l [] = true) (hi : w0.layIfaces Tryd.prog l (w0.layVars Tryd.prog l) = true) :
    laidMet Tryd.prog l ((w0.layVars Tryd.prog l).forCall (fun _ _ => 0) ⟨#[], args, []⟩).memory := by
  have e1 : (l.filter fun x => (l.map (·.1)).contains x.1) = l := List.filter_eq_self.2 fun x hx => List.contains_iff_mem.2 (List.mem_map.2 ⟨x, hx, rfl⟩)
  have e2 : (l.filter fun x => !(l.map (·.1)).contains x.1) = [] := List.filter_eq_nil_iff.2 fun x hx => by rw [List.contains_iff_mem.2 (List.mem_map.2 ⟨x, hx, rfl⟩)]; simp
  have h : laidMet Tryd.prog l (w0.layVars Tryd.prog l) := laidMet_layVars (w0 := w0) (l.map (·.1)) [] (by rw [e1]) (by rw [e1]; exact hf) (by rw [e1]; exact hi) (by rw [e2]; exact LaidIn.none)
  exact h.of_heap (by simp [World.memory, World.forCall, Input.heap])
/-- A world that meets the condition. -/
noncomputable def laidWorld (os : Os) : World := (laidBase os).layVars Tryd.prog laidData
theorem laidWorld_os (os : Os) : (laidWorld os).os = os := World.layVars_os _ _ _
theorem laidWorld_met (os : Os) (args : Array Value) : laidMetH Tryd.prog laid ((laidWorld os).forCall (fun _ _ => 0) ⟨#[], args, []⟩).memory :=
  laidMetH_of_parts (by show laidMet Tryd.prog laidData _; exact layAll args (by kernel_rfl) (by kernel_rfl)) (by kernel_rfl)
end Go.Proofs.YtbnkcbfhappgnaaDoor.Fn
