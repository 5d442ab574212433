import Derived.Test.YtfffnogmkbbfkaaDoorWInv
import Derived.Test.YtfffnogmkbbfkaaDoorWFootNe
namespace Go.Proofs.YtfffnogmkbbfkaaDoorW.PrintWords
open Go.RowKit
end Go.Proofs.YtfffnogmkbbfkaaDoorW.PrintWords
namespace Go.Proofs.YtfffnogmkbbfkaaDoorW.PrintLast
section
variable {ops : Array Oper} {a : Act} {o og : Oper} {g : Nat} {t : Tmp} {u : Bool}
end
end Go.Proofs.YtfffnogmkbbfkaaDoorW.PrintLast
