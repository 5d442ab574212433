import Derived.Test.YtigbmfogfgbmfaaDoorWMore
import Derived.Shelf.Unicode.DecodeSlow
namespace Go.Proofs.YtigbmfogfgbmfaaDoorW.PrintWords
open Go.RowKit
def Glob (w : World) : Prop := Lib.Utf8Tabs 0 1 w
theorem Glob.below {w W : World} (h : Glob w) (hb : Below w.heap.size w W) : Glob W := Utf8Tabs_below h hb
end Go.Proofs.YtigbmfogfgbmfaaDoorW.PrintWords
