import Derived.Test.YtbnkcbfhappgnaaDoorWMore
namespace Go.Proofs.YtbnkcbfhappgnaaDoorW.PrintWords
open Go.RowKit
def Glob (w : World) : Prop := w.cell? ⟨0, 0, none⟩ = some (.iface 112 (.agg #[.pointer (some ⟨1, 58, none⟩)]))
theorem block_lt_of_cell {w : World} {a : Addr} {v : Value} (h : w.cell? a = some v) : a.block < w.heap.size := by
  rcases Nat.lt_or_ge a.block w.heap.size with h0 | h0
  · exact h0
  · simp [World.cell?, Array.getElem?_eq_none h0] at h
theorem Glob.below {w W : World} (h : Glob w) (hb : Below w.heap.size w W) : Glob W := by
  unfold Glob
  rw [hb.cell (block_lt_of_cell h)]
  exact h
end Go.Proofs.YtbnkcbfhappgnaaDoorW.PrintWords
