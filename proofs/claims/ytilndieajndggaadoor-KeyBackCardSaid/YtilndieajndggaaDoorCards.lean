/-
  DERIVED. GIVEN WITH THE SEED: THE CARDS: each row of YtilndieajndggaaDoorRows.lean that lists a variable, with what it lists TIED to the program's text (the seventh form; the later family's looks); each row that meets fmt, with fmt's text TOLD by the authors' own Lean function (tested against real Go, not proved from fmt's source: count such statements apart). THE CARD IS WHAT COUNTS. Prove the row's statement (the work); the ties are given (YtilndieajndggaaDoorTie.lean); close each card by the builder's one call (the guide's Derived/Test/ToyasCard.lean, 'card_holds'). Laid BY PROGRAM, IN A SANDBOX (cutbox-door.mjs). By AI agents, Wed Nov 11 2026. No macro, syntax, notation, axiom, sorry.
-/
import Derived.Test.YtilndieajndggaaDoorRows
import GoSem.ClaimSeven
namespace Go.Proofs.YtilndieajndggaaDoor
namespace Rows

/-- THE TIED CARD OF 'palimpsestlaw07.KeyKinds'. -/
def keyKindsCard : Claim7 := { stood := { row := keyKindsRow, standIns := [], harness := (true, "cfdc760ee9c8dc37bfde721757a8ffedf74fd022e69291179c807f8f6a16d6e7"), looks := false }, kinds := [], alts := [], laidByText := true, laidKinds := [.data, .pinned], laidTests := true, laidLooks := .later }
def KeyKindsCardSaid : Prop := Claim7.holds Tryd.pinned (.plain (OpenSpec.ofChange keyKindsSpec)) keyKindsCard

/-- THE TIED CARD OF 'palimpsestlaw07.KeyMakes'. -/
def keyMakesCard : Claim7 := { stood := { row := keyMakesRow, standIns := [], harness := (true, "cfdc760ee9c8dc37bfde721757a8ffedf74fd022e69291179c807f8f6a16d6e7"), looks := false }, kinds := [], alts := [], laidByText := true, laidKinds := [.data, .pinned], laidTests := true, laidLooks := .later }
def KeyMakesCardSaid : Prop := Claim7.holds Tryd.pinned (.plain (OpenSpec.ofChange keyMakesSpec)) keyMakesCard

/-- THE TIED CARD OF 'palimpsestlaw07.KeyBack'. -/
def keyBackCard : Claim7 := { stood := { row := keyBackRow, standIns := [], harness := (true, "cfdc760ee9c8dc37bfde721757a8ffedf74fd022e69291179c807f8f6a16d6e7"), looks := false }, kinds := [], alts := [], laidByText := true, laidKinds := [.data, .pinned], laidTests := true, laidLooks := .later }
def KeyBackCardSaid : Prop := Claim7.holds Tryd.pinned (.plain (OpenSpec.ofChange keyBackSpec)) keyBackCard

/-- THE SECOND FORM's CARD OF 'palimpsestlaw07.KeyKinds'. -/
def keyKindsUptoCard : Claim7 := { stood := { row := keyKindsUptoRow, standIns := [], harness := (true, "cfdc760ee9c8dc37bfde721757a8ffedf74fd022e69291179c807f8f6a16d6e7"), looks := false }, kinds := [], alts := [], laidByText := true, laidKinds := [.data, .pinned], laidTests := true, laidLooks := .later }
def KeyKindsUptoCardSaid : Prop := Claim7.holds Tryd.pinned (.plain (OpenSpec.upto keyKindsSpec)) keyKindsUptoCard

/-- THE SECOND FORM's CARD OF 'palimpsestlaw07.KeyMakes'. -/
def keyMakesUptoCard : Claim7 := { stood := { row := keyMakesUptoRow, standIns := [], harness := (true, "cfdc760ee9c8dc37bfde721757a8ffedf74fd022e69291179c807f8f6a16d6e7"), looks := false }, kinds := [], alts := [], laidByText := true, laidKinds := [.data, .pinned], laidTests := true, laidLooks := .later }
def KeyMakesUptoCardSaid : Prop := Claim7.holds Tryd.pinned (.plain (OpenSpec.upto keyMakesSpec)) keyMakesUptoCard

/-- THE SECOND FORM's CARD OF 'palimpsestlaw07.KeyBack'. -/
def keyBackUptoCard : Claim7 := { stood := { row := keyBackUptoRow, standIns := [], harness := (true, "cfdc760ee9c8dc37bfde721757a8ffedf74fd022e69291179c807f8f6a16d6e7"), looks := false }, kinds := [], alts := [], laidByText := true, laidKinds := [.data, .pinned], laidTests := true, laidLooks := .later }
def KeyBackUptoCardSaid : Prop := Claim7.holds Tryd.pinned (.plain (OpenSpec.upto keyBackSpec)) keyBackUptoCard
end Rows
end Go.Proofs.YtilndieajndggaaDoor
