/-
  DERIVED. GIVEN WITH THE SEED: THE CARDS: each row of YtigbmfogfgbmfaaDoorRows.lean that lists a variable, with what it lists TIED to the program's text (the seventh form; the later family's looks); each row that meets fmt, with fmt's text TOLD by the authors' own Lean function (tested against real Go, not proved from fmt's source: count such statements apart). THE CARD IS WHAT COUNTS. Prove the row's statement (the work); the ties are given (YtigbmfogfgbmfaaDoorTie.lean); close each card by the builder's one call (the guide's Derived/Test/ToyasCard.lean, 'card_holds'). Laid BY PROGRAM, IN A SANDBOX (cutbox-door.mjs). By AI agents, Wed Nov 11 2026. No macro, syntax, notation, axiom, sorry.
-/
import Derived.Test.YtigbmfogfgbmfaaDoorRows
import GoSem.ClaimSeven
namespace Go.Proofs.YtigbmfogfgbmfaaDoor
namespace Rows

/-- THE TIED CARD OF 'palimpsestlaw21.UnionOver'. -/
def unionOverCard : Claim7 := { stood := { row := unionOverRow, standIns := [], harness := (true, "047a678f5d902e3caa2057f700b8d253d216bf7edff80115754bbae74a789b99"), looks := true }, kinds := [], alts := [], laidByText := true, laidKinds := [.data, .pinned], laidTests := true, laidLooks := .later }
def UnionOverCardSaid : Prop := Claim7.holds Tryd.pinned (.plain (OpenSpec.ofChange unionOverSpec)) unionOverCard

/-- THE TIED CARD OF 'palimpsestlaw21.UnionShows'. -/
def unionShowsCard : Claim7 := { stood := { row := unionShowsRow, standIns := [], harness := (true, "047a678f5d902e3caa2057f700b8d253d216bf7edff80115754bbae74a789b99"), looks := true }, kinds := [], alts := [], laidByText := true, laidKinds := [.data, .pinned], laidTests := true, laidLooks := .later }
def UnionShowsCardSaid : Prop := Claim7.holds Tryd.pinned (.plain (OpenSpec.ofChange unionShowsSpec)) unionShowsCard

/-- THE TIED CARD OF 'palimpsestlaw21.UnionTells'. -/
def unionTellsCard : Claim7 := { stood := { row := unionTellsRow, standIns := [], harness := (true, "047a678f5d902e3caa2057f700b8d253d216bf7edff80115754bbae74a789b99"), looks := true }, kinds := [], alts := [], laidByText := true, laidKinds := [.data, .pinned], laidTests := true, laidLooks := .later }
def UnionTellsCardSaid : Prop := Claim7.holds Tryd.pinned (.plain (OpenSpec.ofChange unionTellsSpec)) unionTellsCard

/-- THE TIED CARD OF 'palimpsestlaw21.UnionBack'. -/
def unionBackCard : Claim7 := { stood := { row := unionBackRow, standIns := [], harness := (true, "047a678f5d902e3caa2057f700b8d253d216bf7edff80115754bbae74a789b99"), looks := true }, kinds := [], alts := [], laidByText := true, laidKinds := [.data, .pinned], laidTests := true, laidLooks := .later }
def UnionBackCardSaid : Prop := Claim7.holds Tryd.pinned (.plain (OpenSpec.ofChange unionBackSpec)) unionBackCard

/-- THE SECOND FORM's CARD OF 'palimpsestlaw21.UnionOver'. -/
def unionOverUptoCard : Claim7 := { stood := { row := unionOverUptoRow, standIns := [], harness := (true, "047a678f5d902e3caa2057f700b8d253d216bf7edff80115754bbae74a789b99"), looks := true }, kinds := [], alts := [], laidByText := true, laidKinds := [.data, .pinned], laidTests := true, laidLooks := .later }
def UnionOverUptoCardSaid : Prop := Claim7.holds Tryd.pinned (.plain (OpenSpec.upto unionOverSpec)) unionOverUptoCard

/-- THE SECOND FORM's CARD OF 'palimpsestlaw21.UnionShows'. -/
def unionShowsUptoCard : Claim7 := { stood := { row := unionShowsUptoRow, standIns := [], harness := (true, "047a678f5d902e3caa2057f700b8d253d216bf7edff80115754bbae74a789b99"), looks := true }, kinds := [], alts := [], laidByText := true, laidKinds := [.data, .pinned], laidTests := true, laidLooks := .later }
def UnionShowsUptoCardSaid : Prop := Claim7.holds Tryd.pinned (.plain (OpenSpec.upto unionShowsSpec)) unionShowsUptoCard

/-- THE SECOND FORM's CARD OF 'palimpsestlaw21.UnionTells'. -/
def unionTellsUptoCard : Claim7 := { stood := { row := unionTellsUptoRow, standIns := [], harness := (true, "047a678f5d902e3caa2057f700b8d253d216bf7edff80115754bbae74a789b99"), looks := true }, kinds := [], alts := [], laidByText := true, laidKinds := [.data, .pinned], laidTests := true, laidLooks := .later }
def UnionTellsUptoCardSaid : Prop := Claim7.holds Tryd.pinned (.plain (OpenSpec.upto unionTellsSpec)) unionTellsUptoCard

/-- THE SECOND FORM's CARD OF 'palimpsestlaw21.UnionBack'. -/
def unionBackUptoCard : Claim7 := { stood := { row := unionBackUptoRow, standIns := [], harness := (true, "047a678f5d902e3caa2057f700b8d253d216bf7edff80115754bbae74a789b99"), looks := true }, kinds := [], alts := [], laidByText := true, laidKinds := [.data, .pinned], laidTests := true, laidLooks := .later }
def UnionBackUptoCardSaid : Prop := Claim7.holds Tryd.pinned (.plain (OpenSpec.upto unionBackSpec)) unionBackUptoCard
end Rows
end Go.Proofs.YtigbmfogfgbmfaaDoor
