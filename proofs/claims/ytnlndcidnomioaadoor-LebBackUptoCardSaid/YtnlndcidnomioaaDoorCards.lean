/-
  DERIVED. GIVEN WITH THE SEED: THE CARDS: each row of YtnlndcidnomioaaDoorRows.lean that lists a variable, with what it lists TIED to the program's text (the seventh form; the later family's looks); each row that meets fmt, with fmt's text TOLD by the authors' own Lean function (tested against real Go, not proved from fmt's source: count such statements apart). THE CARD IS WHAT COUNTS. Prove the row's statement (the work); the ties are given (YtnlndcidnomioaaDoorTie.lean); close each card by the builder's one call (the guide's Derived/Test/ToyasCard.lean, 'card_holds'). Laid BY PROGRAM, IN A SANDBOX (cutbox-door.mjs). By AI agents, Wed Nov 11 2026. No macro, syntax, notation, axiom, sorry.
-/
import Derived.Test.YtnlndcidnomioaaDoorRows
import GoSem.ClaimSeven
namespace Go.Proofs.YtnlndcidnomioaaDoor
namespace Rows

/-- THE TIED CARD OF 'palimpsestlaw02.LebSizes'. -/
def lebSizesCard : Claim7 := { stood := { row := lebSizesRow, standIns := [], harness := (true, "7469aac13ee5fbee3cd67a029673c3153d53342c4160a9ae1c2831414622069e"), looks := true }, kinds := [], alts := [], laidByText := true, laidKinds := [.handle], laidTests := true, laidLooks := .later }
def LebSizesCardSaid : Prop := Claim7.holds Tryd.pinned (.plain (OpenSpec.ofChange lebSizesSpec)) lebSizesCard

/-- THE TIED CARD OF 'palimpsestlaw02.LebCut'. -/
def lebCutCard : Claim7 := { stood := { row := lebCutRow, standIns := [], harness := (true, "7469aac13ee5fbee3cd67a029673c3153d53342c4160a9ae1c2831414622069e"), looks := true }, kinds := [], alts := [], laidByText := true, laidKinds := [.handle], laidTests := true, laidLooks := .later }
def LebCutCardSaid : Prop := Claim7.holds Tryd.pinned (.plain (OpenSpec.ofChange lebCutSpec)) lebCutCard

/-- THE TIED CARD OF 'palimpsestlaw02.LebAgain'. -/
def lebAgainCard : Claim7 := { stood := { row := lebAgainRow, standIns := [], harness := (true, "7469aac13ee5fbee3cd67a029673c3153d53342c4160a9ae1c2831414622069e"), looks := true }, kinds := [], alts := [], laidByText := true, laidKinds := [.handle], laidTests := true, laidLooks := .later }
def LebAgainCardSaid : Prop := Claim7.holds Tryd.pinned (.plain (OpenSpec.ofChange lebAgainSpec)) lebAgainCard

/-- THE TIED CARD OF 'palimpsestlaw02.LebWrites'. -/
def lebWritesCard : Claim7 := { stood := { row := lebWritesRow, standIns := [], harness := (true, "7469aac13ee5fbee3cd67a029673c3153d53342c4160a9ae1c2831414622069e"), looks := true }, kinds := [], alts := [], laidByText := true, laidKinds := [.handle], laidTests := true, laidLooks := .later }
def LebWritesCardSaid : Prop := Claim7.holds Tryd.pinned (.plain (OpenSpec.ofChange lebWritesSpec)) lebWritesCard

/-- THE TIED CARD OF 'palimpsestlaw02.LebBack'. -/
def lebBackCard : Claim7 := { stood := { row := lebBackRow, standIns := [], harness := (true, "7469aac13ee5fbee3cd67a029673c3153d53342c4160a9ae1c2831414622069e"), looks := true }, kinds := [], alts := [], laidByText := true, laidKinds := [.handle], laidTests := true, laidLooks := .later }
def LebBackCardSaid : Prop := Claim7.holds Tryd.pinned (.plain (OpenSpec.ofChange lebBackSpec)) lebBackCard

/-- THE SECOND FORM's CARD OF 'palimpsestlaw02.LebSizes'. -/
def lebSizesUptoCard : Claim7 := { stood := { row := lebSizesUptoRow, standIns := [], harness := (true, "7469aac13ee5fbee3cd67a029673c3153d53342c4160a9ae1c2831414622069e"), looks := true }, kinds := [], alts := [], laidByText := true, laidKinds := [.handle], laidTests := true, laidLooks := .later }
def LebSizesUptoCardSaid : Prop := Claim7.holds Tryd.pinned (.plain (OpenSpec.upto lebSizesSpec)) lebSizesUptoCard

/-- THE SECOND FORM's CARD OF 'palimpsestlaw02.LebCut'. -/
def lebCutUptoCard : Claim7 := { stood := { row := lebCutUptoRow, standIns := [], harness := (true, "7469aac13ee5fbee3cd67a029673c3153d53342c4160a9ae1c2831414622069e"), looks := true }, kinds := [], alts := [], laidByText := true, laidKinds := [.handle], laidTests := true, laidLooks := .later }
def LebCutUptoCardSaid : Prop := Claim7.holds Tryd.pinned (.plain (OpenSpec.upto lebCutSpec)) lebCutUptoCard

/-- THE SECOND FORM's CARD OF 'palimpsestlaw02.LebAgain'. -/
def lebAgainUptoCard : Claim7 := { stood := { row := lebAgainUptoRow, standIns := [], harness := (true, "7469aac13ee5fbee3cd67a029673c3153d53342c4160a9ae1c2831414622069e"), looks := true }, kinds := [], alts := [], laidByText := true, laidKinds := [.handle], laidTests := true, laidLooks := .later }
def LebAgainUptoCardSaid : Prop := Claim7.holds Tryd.pinned (.plain (OpenSpec.upto lebAgainSpec)) lebAgainUptoCard

/-- THE SECOND FORM's CARD OF 'palimpsestlaw02.LebWrites'. -/
def lebWritesUptoCard : Claim7 := { stood := { row := lebWritesUptoRow, standIns := [], harness := (true, "7469aac13ee5fbee3cd67a029673c3153d53342c4160a9ae1c2831414622069e"), looks := true }, kinds := [], alts := [], laidByText := true, laidKinds := [.handle], laidTests := true, laidLooks := .later }
def LebWritesUptoCardSaid : Prop := Claim7.holds Tryd.pinned (.plain (OpenSpec.upto lebWritesSpec)) lebWritesUptoCard

/-- THE SECOND FORM's CARD OF 'palimpsestlaw02.LebBack'. -/
def lebBackUptoCard : Claim7 := { stood := { row := lebBackUptoRow, standIns := [], harness := (true, "7469aac13ee5fbee3cd67a029673c3153d53342c4160a9ae1c2831414622069e"), looks := true }, kinds := [], alts := [], laidByText := true, laidKinds := [.handle], laidTests := true, laidLooks := .later }
def LebBackUptoCardSaid : Prop := Claim7.holds Tryd.pinned (.plain (OpenSpec.upto lebBackSpec)) lebBackUptoCard
end Rows
end Go.Proofs.YtnlndcidnomioaaDoor
