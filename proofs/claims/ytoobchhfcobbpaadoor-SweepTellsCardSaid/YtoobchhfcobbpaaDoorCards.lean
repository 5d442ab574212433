/-
  DERIVED. GIVEN WITH THE SEED: THE CARDS: each row of YtoobchhfcobbpaaDoorRows.lean that lists a variable, with what it lists TIED to the program's text (the seventh form; the later family's looks); each row that meets fmt, with fmt's text TOLD by the authors' own Lean function (tested against real Go, not proved from fmt's source: count such statements apart). THE CARD IS WHAT COUNTS. Prove the row's statement (the work); the ties are given (YtoobchhfcobbpaaDoorTie.lean); close each card by the builder's one call (the guide's Derived/Test/ToyasCard.lean, 'card_holds'). Laid BY PROGRAM, IN A SANDBOX (cutbox-door.mjs). By AI agents, Wed Nov 11 2026. No macro, syntax, notation, axiom, sorry.
-/
import Derived.Test.YtoobchhfcobbpaaDoorRows
import GoSem.ClaimSeven
namespace Go.Proofs.YtoobchhfcobbpaaDoor
namespace Rows

/-- THE TIED CARD OF 'palimpsestlaw25.SweepTells'. -/
def sweepTellsCard : Claim7 := { stood := { row := sweepTellsRow, standIns := [], harness := (true, "1593482bdda3b91e7493a4da66b9b97ef4cf0d35ab35764923ec46ad0ade5e7e"), looks := false }, kinds := [], alts := [], laidByText := true, laidKinds := [.data, .pinned], laidTests := true, laidLooks := .later }
def SweepTellsCardSaid : Prop := Claim7.holds Tryd.pinned (.plain (OpenSpec.ofChange sweepTellsSpec)) sweepTellsCard

/-- THE TIED CARD OF 'palimpsestlaw25.SweepClean'. -/
def sweepCleanCard : Claim7 := { stood := { row := sweepCleanRow, standIns := [], harness := (true, "1593482bdda3b91e7493a4da66b9b97ef4cf0d35ab35764923ec46ad0ade5e7e"), looks := false }, kinds := [], alts := [], laidByText := true, laidKinds := [.data, .pinned], laidTests := true, laidLooks := .later }
def SweepCleanCardSaid : Prop := Claim7.holds Tryd.pinned (.plain (OpenSpec.ofChange sweepCleanSpec)) sweepCleanCard

/-- THE SECOND FORM's CARD OF 'palimpsestlaw25.SweepTells'. -/
def sweepTellsUptoCard : Claim7 := { stood := { row := sweepTellsUptoRow, standIns := [], harness := (true, "1593482bdda3b91e7493a4da66b9b97ef4cf0d35ab35764923ec46ad0ade5e7e"), looks := false }, kinds := [], alts := [], laidByText := true, laidKinds := [.data, .pinned], laidTests := true, laidLooks := .later }
def SweepTellsUptoCardSaid : Prop := Claim7.holds Tryd.pinned (.plain (OpenSpec.upto sweepTellsSpec)) sweepTellsUptoCard

/-- THE SECOND FORM's CARD OF 'palimpsestlaw25.SweepClean'. -/
def sweepCleanUptoCard : Claim7 := { stood := { row := sweepCleanUptoRow, standIns := [], harness := (true, "1593482bdda3b91e7493a4da66b9b97ef4cf0d35ab35764923ec46ad0ade5e7e"), looks := false }, kinds := [], alts := [], laidByText := true, laidKinds := [.data, .pinned], laidTests := true, laidLooks := .later }
def SweepCleanUptoCardSaid : Prop := Claim7.holds Tryd.pinned (.plain (OpenSpec.upto sweepCleanSpec)) sweepCleanUptoCard
end Rows
end Go.Proofs.YtoobchhfcobbpaaDoor
