/- From the row's condition to what a proof takes of it, and a world that meets the condition. -/
import Derived.Test.YtigbmfogfgbmfaaDoorRows
import Derived.Test.YtigbmfogfgbmfaaDoorG
import Derived.ChangeSame
import Derived.ChangeVars
import Derived.JoinedOf
import Derived.RowKit
import Derived.LaidLaws
import Derived.LaidHandle
import Derived.Lay
import Derived.MakeChecks
import Derived.Handed
import Derived.Stop.Joined
import Derived.Test.YtigbmfogfgbmfaaDoorShv
namespace Go.Proofs.YtigbmfogfgbmfaaDoor.Fn
open Go.ChangeShapes Go.WideShapes Go.RowKit Go.Proofs.YtigbmfogfgbmfaaDoorW.PrintWords
abbrev laid : List (String × DataW Unit) := [("unicode/utf8.acceptRanges", Rows.laid_unicode_utf8_acceptRanges), ("unicode/utf8.first", Rows.laid_unicode_utf8_first)]
theorem gl_first : Rows.laid_unicode_utf8_first = Lib.firstData := by kernel_rfl
theorem gl_accept : (Rows.laid_unicode_utf8_acceptRanges : DataW Unit) = Lib.acceptData := by kernel_rfl
theorem glob_of_laid {W : World} (h : laidMetH Tryd.prog laid W) : Glob W := by
  have h' : laidMet Tryd.prog laid W := h
  exact utf8Tabs_of_readsT (U8Types.of196 Tryd.laysValid) ⟨by kernel_rfl, by kernel_rfl, by kernel_rfl, by kernel_rfl, by kernel_rfl, by kernel_rfl, by kernel_rfl⟩ (by have := Lib.laidMet.reads h' (.tail _ (.head _)); rw [gl_first] at this; exact this) (by have := Lib.laidMet.reads h' (.head _); rw [gl_accept] at this; exact this)
/-- The tables. -/
abbrev laidData : List (String × DataW Unit) := [("unicode/utf8.acceptRanges", Rows.laid_unicode_utf8_acceptRanges), ("unicode/utf8.first", Rows.laid_unicode_utf8_first)]
noncomputable def laidBase (os : Os) : World := World.holding Tryd.prog os ⟨#[], #[], []⟩
theorem layAll {w0 : World} {l : List (String × DataW Unit)} (args : Array Value) (hf : w0.layFits Tryd.prog l [] = true) (hi : w0.layIfaces Tryd.prog l (w0.layVars Tryd.prog l) = true) :
    laidMet Tryd.prog l ((w0.layVars Tryd.prog l).forCall (fun _ _ => 0) ⟨#[], args, []⟩).memory := by
  have e1 : (l.filter fun x => (l.map (·.1)).contains x.1) = l := List.filter_eq_self.2 fun x hx => List.contains_iff_mem.2 (List.mem_map.2 ⟨x, hx, rfl⟩)
  have e2 : (l.filter fun x => !(l.map (·.1)).contains x.1) = [] := List.filter_eq_nil_iff.2 fun x hx => by rw [List.contains_iff_mem.2 (List.mem_map.2 ⟨x, hx, rfl⟩)]; simp
  have h : laidMet Tryd.prog l (w0.layVars Tryd.prog l) := laidMet_layVars (w0 := w0) (l.map (·.1)) [] (by rw [e1]) (by rw [e1]; exact hf) (by rw [e1]; exact hi) (by rw [e2]; exact LaidIn.none)
  exact h.of_heap (by simp [World.memory, World.forCall, Input.heap])
/-- A world that meets the condition. -/
noncomputable def laidWorld (os : Os) : World := (laidBase os).layVars Tryd.prog laidData
theorem laidWorld_os (os : Os) : (laidWorld os).os = os := World.layVars_os _ _ _
theorem laidWorld_met (os : Os) (args : Array Value) : laidMetH Tryd.prog laid ((laidWorld os).forCall (fun _ _ => 0) ⟨#[], args, []⟩).memory :=
  laidMetH_of_parts (by show laidMet Tryd.prog laidData _; exact layAll args (by kernel_rfl) (by kernel_rfl)) (by kernel_rfl)
end Go.Proofs.YtigbmfogfgbmfaaDoor.Fn
