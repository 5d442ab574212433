import Derived.Test.YtfffnogmkbbfkaaDoorWMore
namespace Go.Proofs.YtfffnogmkbbfkaaDoorW.PrintWords
open Go.RowKit
def Glob (_ : World) : Prop := True
theorem Glob.below {w W : World} (_ : Glob w) (_ : Below w.heap.size w W) : Glob W := trivial
end Go.Proofs.YtfffnogmkbbfkaaDoorW.PrintWords
