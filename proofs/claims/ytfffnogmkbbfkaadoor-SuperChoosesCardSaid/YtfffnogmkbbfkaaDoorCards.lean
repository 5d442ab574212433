/-
  DERIVED. GIVEN WITH THE SEED: THE CARDS: each row of YtfffnogmkbbfkaaDoorRows.lean that lists a variable, with what it lists TIED to the program's text (the seventh form; the later family's looks); each row that meets fmt, with fmt's text TOLD by the authors' own Lean function (tested against real Go, not proved from fmt's source: count such statements apart). THE CARD IS WHAT COUNTS. Prove the row's statement (the work); the ties are given (YtfffnogmkbbfkaaDoorTie.lean); close each card by the builder's one call (the guide's Derived/Test/ToyasCard.lean, 'card_holds'). Laid BY PROGRAM, IN A SANDBOX (cutbox-door.mjs). By AI agents, Wed Nov 11 2026. No macro, syntax, notation, axiom, sorry.
-/
import Derived.Test.YtfffnogmkbbfkaaDoorRows
import GoSem.ClaimSeven
namespace Go.Proofs.YtfffnogmkbbfkaaDoor
namespace Rows

/-- THE TIED CARD OF 'palimpsestlaw11.SuperBack'. -/
def superBackCard : Claim7 := { stood := { row := superBackRow, standIns := [], harness := (true, "10f3b6a735fe05035d765c5efa1797c699250f1045a49d2bf56bcf9af925f6f7"), looks := false }, kinds := [], alts := [], laidByText := true, laidKinds := [.data, .pinned], laidTests := true, laidLooks := .later }
def SuperBackCardSaid : Prop := Claim7.holds Tryd.pinned (.plain (OpenSpec.ofChange superBackSpec)) superBackCard

/-- THE TIED CARD OF 'palimpsestlaw11.SuperGens'. -/
def superGensCard : Claim7 := { stood := { row := superGensRow, standIns := [], harness := (true, "10f3b6a735fe05035d765c5efa1797c699250f1045a49d2bf56bcf9af925f6f7"), looks := false }, kinds := [], alts := [], laidByText := true, laidKinds := [.data, .pinned], laidTests := true, laidLooks := .later }
def SuperGensCardSaid : Prop := Claim7.holds Tryd.pinned (.plain (OpenSpec.ofChange superGensSpec)) superGensCard

/-- THE TIED CARD OF 'palimpsestlaw11.SuperWrites'. -/
def superWritesCard : Claim7 := { stood := { row := superWritesRow, standIns := [], harness := (true, "10f3b6a735fe05035d765c5efa1797c699250f1045a49d2bf56bcf9af925f6f7"), looks := false }, kinds := [], alts := [], laidByText := true, laidKinds := [.data, .pinned], laidTests := true, laidLooks := .later }
def SuperWritesCardSaid : Prop := Claim7.holds Tryd.pinned (.plain (OpenSpec.ofChange superWritesSpec)) superWritesCard

/-- THE TIED CARD OF 'palimpsestlaw11.SuperChooses'. -/
def superChoosesCard : Claim7 := { stood := { row := superChoosesRow, standIns := [], harness := (true, "10f3b6a735fe05035d765c5efa1797c699250f1045a49d2bf56bcf9af925f6f7"), looks := false }, kinds := [], alts := [], laidByText := true, laidKinds := [.data, .pinned], laidTests := true, laidLooks := .later }
def SuperChoosesCardSaid : Prop := Claim7.holds Tryd.pinned (.plain (OpenSpec.ofChange superChoosesSpec)) superChoosesCard

/-- THE TIED CARD OF 'palimpsestlaw11.SuperSwitch'. -/
def superSwitchCard : Claim7 := { stood := { row := superSwitchRow, standIns := [], harness := (true, "10f3b6a735fe05035d765c5efa1797c699250f1045a49d2bf56bcf9af925f6f7"), looks := false }, kinds := [], alts := [], laidByText := true, laidKinds := [.data, .pinned], laidTests := true, laidLooks := .later }
def SuperSwitchCardSaid : Prop := Claim7.holds Tryd.pinned (.plain (OpenSpec.ofChange superSwitchSpec)) superSwitchCard

/-- THE SECOND FORM's CARD OF 'palimpsestlaw11.SuperBack'. -/
def superBackUptoCard : Claim7 := { stood := { row := superBackUptoRow, standIns := [], harness := (true, "10f3b6a735fe05035d765c5efa1797c699250f1045a49d2bf56bcf9af925f6f7"), looks := false }, kinds := [], alts := [], laidByText := true, laidKinds := [.data, .pinned], laidTests := true, laidLooks := .later }
def SuperBackUptoCardSaid : Prop := Claim7.holds Tryd.pinned (.plain (OpenSpec.upto superBackSpec)) superBackUptoCard

/-- THE SECOND FORM's CARD OF 'palimpsestlaw11.SuperGens'. -/
def superGensUptoCard : Claim7 := { stood := { row := superGensUptoRow, standIns := [], harness := (true, "10f3b6a735fe05035d765c5efa1797c699250f1045a49d2bf56bcf9af925f6f7"), looks := false }, kinds := [], alts := [], laidByText := true, laidKinds := [.data, .pinned], laidTests := true, laidLooks := .later }
def SuperGensUptoCardSaid : Prop := Claim7.holds Tryd.pinned (.plain (OpenSpec.upto superGensSpec)) superGensUptoCard

/-- THE SECOND FORM's CARD OF 'palimpsestlaw11.SuperWrites'. -/
def superWritesUptoCard : Claim7 := { stood := { row := superWritesUptoRow, standIns := [], harness := (true, "10f3b6a735fe05035d765c5efa1797c699250f1045a49d2bf56bcf9af925f6f7"), looks := false }, kinds := [], alts := [], laidByText := true, laidKinds := [.data, .pinned], laidTests := true, laidLooks := .later }
def SuperWritesUptoCardSaid : Prop := Claim7.holds Tryd.pinned (.plain (OpenSpec.upto superWritesSpec)) superWritesUptoCard

/-- THE SECOND FORM's CARD OF 'palimpsestlaw11.SuperChooses'. -/
def superChoosesUptoCard : Claim7 := { stood := { row := superChoosesUptoRow, standIns := [], harness := (true, "10f3b6a735fe05035d765c5efa1797c699250f1045a49d2bf56bcf9af925f6f7"), looks := false }, kinds := [], alts := [], laidByText := true, laidKinds := [.data, .pinned], laidTests := true, laidLooks := .later }
def SuperChoosesUptoCardSaid : Prop := Claim7.holds Tryd.pinned (.plain (OpenSpec.upto superChoosesSpec)) superChoosesUptoCard

/-- THE SECOND FORM's CARD OF 'palimpsestlaw11.SuperSwitch'. -/
def superSwitchUptoCard : Claim7 := { stood := { row := superSwitchUptoRow, standIns := [], harness := (true, "10f3b6a735fe05035d765c5efa1797c699250f1045a49d2bf56bcf9af925f6f7"), looks := false }, kinds := [], alts := [], laidByText := true, laidKinds := [.data, .pinned], laidTests := true, laidLooks := .later }
def SuperSwitchUptoCardSaid : Prop := Claim7.holds Tryd.pinned (.plain (OpenSpec.upto superSwitchSpec)) superSwitchUptoCard
end Rows
end Go.Proofs.YtfffnogmkbbfkaaDoor
