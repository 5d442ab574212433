/-
  No cell of these rows narrows 'for every input' (looked for: loops, veiled, ifaces, maps, wideKeys, modest, calm, conditions, laid).
  DERIVED. THE GIVEN ROWS OF THIS SEAT. 2 by the template 'for every input the law returns true; each argument reads behind the call as it read before'; 0 by the template 'total and deterministic' (their statements: YtijipdpeojpbgaaTotals.lean).
  GIVEN WITH THE SEED: the statements are not yours to turn. If you find one false, say at which input.
  Laid BY PROGRAM, IN A SANDBOX (cutbox-rows.mjs): the forced cells as the released guide's own fill.sh prints them over the translation f4bda4de9230130a… (all of the seat's roots in one cut). By AI agents, Wed Nov 11 2026. No macro, syntax, notation, axiom, sorry.
-/
import Derived.Test.YtijipdpeojpbgaaChecked
import GoSem.Claim
import GoSem.ClaimJoined
import GoSem.ClaimMapViews
import Derived.JoinedTies
import Derived.KernelRfl
namespace Go.Proofs.Ytijipdpeojpbgaa
/- THE CELL 'sum', in the pinned program and in every row, IS THE sha256 OF THE DUMP (.gsa) THAT YtijipdpeojpbgaaProg.lean LOADS. Nothing in Lean hashes anything: it is a label: what it is worth is what the hold of that sum in a sandbox is worth. -/
noncomputable def Try.pinned : Pinned := { name := "ytijipdpeojpbgaa", sum := "f4bda4de9230130a03ec720922b2bcf8751c9c81d1b8fdbd8142b4c2a1c22069", checked := Try.checked }
namespace Rows
def none {H : Type} : Left H := { results := [], args := [] }

/-- 'palimpsestlaw10.SpaceTwo': WHATEVER THE INPUT: true; the input reads as it did. -/
def spaceTwoSpec : ChangeSpec := { name := "spaceTwo", fn := fun _ => fun
  | [d1, d2, d3] => { results := [.lit (.bool true)], args := [d1, d2, d3] }
  | _ => none }
def spaceTwoRow : OpenClaim := { program := "ytijipdpeojpbgaa", sum := "f4bda4de9230130a03ec720922b2bcf8751c9c81d1b8fdbd8142b4c2a1c22069", func := "palimpsest/palimpsestlaw10.SpaceTwo", spec := "spaceTwo", apart := false }
def SpaceTwoSaid : Prop := spaceTwoRow.holds Try.pinned (OpenSpec.ofChange spaceTwoSpec)

/-- ITS FALSE NEIGHBOUR: 'it returns false'. Refute it at one input. -/
def spaceTwoWrong : ChangeSpec := { name := "spaceTwo", fn := fun _ => fun
  | [d1, d2, d3] => { results := [.lit (.bool false)], args := [d1, d2, d3] }
  | _ => none }
def SpaceTwoWrongFalsely : Prop := spaceTwoRow.holds Try.pinned (OpenSpec.ofChange spaceTwoWrong)

/-- 'palimpsestlaw10.SpaceSets': WHATEVER THE INPUT: true; the input reads as it did. -/
def spaceSetsSpec : ChangeSpec := { name := "spaceSets", fn := fun _ => fun
  | [d1, d2] => { results := [.lit (.bool true)], args := [d1, d2] }
  | _ => none }
def spaceSetsRow : OpenClaim := { program := "ytijipdpeojpbgaa", sum := "f4bda4de9230130a03ec720922b2bcf8751c9c81d1b8fdbd8142b4c2a1c22069", func := "palimpsest/palimpsestlaw10.SpaceSets", spec := "spaceSets", apart := false }
def SpaceSetsSaid : Prop := spaceSetsRow.holds Try.pinned (OpenSpec.ofChange spaceSetsSpec)

/-- ITS FALSE NEIGHBOUR: 'it returns false'. Refute it at one input. -/
def spaceSetsWrong : ChangeSpec := { name := "spaceSets", fn := fun _ => fun
  | [d1, d2] => { results := [.lit (.bool false)], args := [d1, d2] }
  | _ => none }
def SpaceSetsWrongFalsely : Prop := spaceSetsRow.holds Try.pinned (OpenSpec.ofChange spaceSetsWrong)

/- THE SECOND FORM. 'bulk': how many values and letters a reading holds, each counted each time it is reached (what is shared counts as often as it is met; a slice's spare places count too). A statement '..UptoSaid' is the law's where the arguments, and the package variables that the reading takes, are together of bulk at most 1048576: NARROWER than '..Said'. Prove '..Said' where nothing that the law and all that it calls make is longer than what came in: it says more and counts as full. Else prove '..UptoSaid'. A law counts once. -/
mutual
def uptoBulk {H : Type} : DataW H → Nat
  | .lit (.string bytes) => bytes.length + 1
  | .lit _ => 1
  | .nil => 1
  | .ptr d => uptoBulk d + 1
  | .slice elems spare => uptoBulkAll elems + uptoBulkAll spare + 1
  | .agg parts => uptoBulkAll parts + 1
  | .iface _ d => uptoBulk d + 1
  | .map entries => uptoBulkEntries entries + 1
  | .held _ => 1
def uptoBulkAll {H : Type} : List (DataW H) → Nat
  | [] => 0
  | d :: r => uptoBulk d + uptoBulkAll r
def uptoBulkEntries {H : Type} : List (Lit × DataW H) → Nat
  | [] => 0
  | x :: r => uptoBulkEntry x + uptoBulkEntries r
def uptoBulkEntry {H : Type} : Lit × DataW H → Nat
  | (.string bytes, d) => bytes.length + uptoBulk d + 1
  | (_, d) => uptoBulk d + 1
 end
def uptoSmall : (H : Type) → List (DataW H) → Bool := fun _ ds => decide (uptoBulkAll ds ≤ 1048576)
def OpenSpec.upto (s : _root_.Go.ChangeSpec) : _root_.Go.OpenSpec := { _root_.Go.OpenSpec.ofChange s with cond := some uptoSmall }

/-- 'palimpsestlaw10.SpaceTwo', WHERE WHAT IT READS IS OF BULK AT MOST 1048576: true; the input reads as it did. -/
def spaceTwoUptoRow : OpenClaim := { program := "ytijipdpeojpbgaa", sum := "f4bda4de9230130a03ec720922b2bcf8751c9c81d1b8fdbd8142b4c2a1c22069", func := "palimpsest/palimpsestlaw10.SpaceTwo", spec := "spaceTwo", apart := false, narrowed := true }
def SpaceTwoUptoSaid : Prop := spaceTwoUptoRow.holds Try.pinned (OpenSpec.upto spaceTwoSpec)

/-- 'palimpsestlaw10.SpaceSets', WHERE WHAT IT READS IS OF BULK AT MOST 1048576: true; the input reads as it did. -/
def spaceSetsUptoRow : OpenClaim := { program := "ytijipdpeojpbgaa", sum := "f4bda4de9230130a03ec720922b2bcf8751c9c81d1b8fdbd8142b4c2a1c22069", func := "palimpsest/palimpsestlaw10.SpaceSets", spec := "spaceSets", apart := false, narrowed := true }
def SpaceSetsUptoSaid : Prop := spaceSetsUptoRow.holds Try.pinned (OpenSpec.upto spaceSetsSpec)

end Rows
end Go.Proofs.Ytijipdpeojpbgaa
