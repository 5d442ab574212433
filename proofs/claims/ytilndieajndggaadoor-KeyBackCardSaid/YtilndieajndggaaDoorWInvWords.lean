import Derived.Test.YtilndieajndggaaDoorWInv
import Derived.Test.YtilndieajndggaaDoorWFootNe
namespace Go.Proofs.YtilndieajndggaaDoorW.PrintWords
open Go.RowKit
end Go.Proofs.YtilndieajndggaaDoorW.PrintWords
namespace Go.Proofs.YtilndieajndggaaDoorW.PrintLast
section
variable {ops : Array Oper} {a : Act} {o og : Oper} {g : Nat} {t : Tmp} {u : Bool}
end
end Go.Proofs.YtilndieajndggaaDoorW.PrintLast
