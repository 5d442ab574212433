import Derived.Test.YtigbmfogfgbmfaaDoorWInv
import Derived.Test.YtigbmfogfgbmfaaDoorWFootNe
namespace Go.Proofs.YtigbmfogfgbmfaaDoorW.PrintWords
open Go.RowKit
end Go.Proofs.YtigbmfogfgbmfaaDoorW.PrintWords
namespace Go.Proofs.YtigbmfogfgbmfaaDoorW.PrintLast
section
variable {ops : Array Oper} {a : Act} {o og : Oper} {g : Nat} {t : Tmp} {u : Bool}
end
end Go.Proofs.YtigbmfogfgbmfaaDoorW.PrintLast
