/-
  DERIVED. GIVEN WITH THE SEED: THE CARDS: each row of YtbnkcbfhappgnaaDoorRows.lean that lists a variable, with what it lists TIED to the program's text (the seventh form; the later family's looks); each row that meets fmt, with fmt's text TOLD by the authors' own Lean function (tested against real Go, not proved from fmt's source: count such statements apart). THE CARD IS WHAT COUNTS. Prove the row's statement (the work); the ties are given (YtbnkcbfhappgnaaDoorTie.lean); close each card by the builder's one call (the guide's Derived/Test/ToyasCard.lean, 'card_holds'). Laid BY PROGRAM, IN A SANDBOX (cutbox-door.mjs). By AI agents, Wed Nov 11 2026. No macro, syntax, notation, axiom, sorry.
-/
import Derived.Test.YtbnkcbfhappgnaaDoorRows
import GoSem.ClaimSeven
namespace Go.Proofs.YtbnkcbfhappgnaaDoor
namespace Rows

/-- THE TIED CARD OF 'palimpsestlaw12.FrameSizes'. -/
def frameSizesCard : Claim7 := { stood := { row := frameSizesRow, standIns := [], harness := (true, "8e719642ffc929a20bd0322c0fc413cc3240b14fe14bac0761c07e0b443a068a"), looks := true }, kinds := [], alts := [], laidByText := true, laidKinds := [.handle], laidTests := true, laidLooks := .later }
def FrameSizesCardSaid : Prop := Claim7.holds Tryd.pinned (.plain (OpenSpec.ofChange frameSizesSpec)) frameSizesCard

/-- THE TIED CARD OF 'palimpsestlaw12.FrameWrites'. -/
def frameWritesCard : Claim7 := { stood := { row := frameWritesRow, standIns := [], harness := (true, "8e719642ffc929a20bd0322c0fc413cc3240b14fe14bac0761c07e0b443a068a"), looks := true }, kinds := [], alts := [], laidByText := true, laidKinds := [.handle], laidTests := true, laidLooks := .later }
def FrameWritesCardSaid : Prop := Claim7.holds Tryd.pinned (.plain (OpenSpec.ofChange frameWritesSpec)) frameWritesCard

/-- THE TIED CARD OF 'palimpsestlaw12.FrameBack'. -/
def frameBackCard : Claim7 := { stood := { row := frameBackRow, standIns := [], harness := (true, "8e719642ffc929a20bd0322c0fc413cc3240b14fe14bac0761c07e0b443a068a"), looks := true }, kinds := [], alts := [], laidByText := true, laidKinds := [.handle], laidTests := true, laidLooks := .later }
def FrameBackCardSaid : Prop := Claim7.holds Tryd.pinned (.plain (OpenSpec.ofChange frameBackSpec)) frameBackCard

/-- THE TIED CARD OF 'palimpsestlaw12.FrameKeys'. -/
def frameKeysCard : Claim7 := { stood := { row := frameKeysRow, standIns := [], harness := (true, "8e719642ffc929a20bd0322c0fc413cc3240b14fe14bac0761c07e0b443a068a"), looks := true }, kinds := [], alts := [], laidByText := true, laidKinds := [.handle], laidTests := true, laidLooks := .later }
def FrameKeysCardSaid : Prop := Claim7.holds Tryd.pinned (.plain (OpenSpec.ofChange frameKeysSpec)) frameKeysCard

/-- THE SECOND FORM's CARD OF 'palimpsestlaw12.FrameSizes'. -/
def frameSizesUptoCard : Claim7 := { stood := { row := frameSizesUptoRow, standIns := [], harness := (true, "8e719642ffc929a20bd0322c0fc413cc3240b14fe14bac0761c07e0b443a068a"), looks := true }, kinds := [], alts := [], laidByText := true, laidKinds := [.handle], laidTests := true, laidLooks := .later }
def FrameSizesUptoCardSaid : Prop := Claim7.holds Tryd.pinned (.plain (OpenSpec.upto frameSizesSpec)) frameSizesUptoCard

/-- THE SECOND FORM's CARD OF 'palimpsestlaw12.FrameWrites'. -/
def frameWritesUptoCard : Claim7 := { stood := { row := frameWritesUptoRow, standIns := [], harness := (true, "8e719642ffc929a20bd0322c0fc413cc3240b14fe14bac0761c07e0b443a068a"), looks := true }, kinds := [], alts := [], laidByText := true, laidKinds := [.handle], laidTests := true, laidLooks := .later }
def FrameWritesUptoCardSaid : Prop := Claim7.holds Tryd.pinned (.plain (OpenSpec.upto frameWritesSpec)) frameWritesUptoCard

/-- THE SECOND FORM's CARD OF 'palimpsestlaw12.FrameBack'. -/
def frameBackUptoCard : Claim7 := { stood := { row := frameBackUptoRow, standIns := [], harness := (true, "8e719642ffc929a20bd0322c0fc413cc3240b14fe14bac0761c07e0b443a068a"), looks := true }, kinds := [], alts := [], laidByText := true, laidKinds := [.handle], laidTests := true, laidLooks := .later }
def FrameBackUptoCardSaid : Prop := Claim7.holds Tryd.pinned (.plain (OpenSpec.upto frameBackSpec)) frameBackUptoCard

/-- THE SECOND FORM's CARD OF 'palimpsestlaw12.FrameKeys'. -/
def frameKeysUptoCard : Claim7 := { stood := { row := frameKeysUptoRow, standIns := [], harness := (true, "8e719642ffc929a20bd0322c0fc413cc3240b14fe14bac0761c07e0b443a068a"), looks := true }, kinds := [], alts := [], laidByText := true, laidKinds := [.handle], laidTests := true, laidLooks := .later }
def FrameKeysUptoCardSaid : Prop := Claim7.holds Tryd.pinned (.plain (OpenSpec.upto frameKeysSpec)) frameKeysUptoCard
end Rows
end Go.Proofs.YtbnkcbfhappgnaaDoor
