import Derived.Test.YtdhjhcdeeelmhaaWInv
import Derived.Test.YtdhjhcdeeelmhaaWFootNe
namespace Go.Proofs.YtdhjhcdeeelmhaaW.PrintWords
open Go.RowKit
end Go.Proofs.YtdhjhcdeeelmhaaW.PrintWords
namespace Go.Proofs.YtdhjhcdeeelmhaaW.PrintLast
section
variable {ops : Array Oper} {a : Act} {o og : Oper} {g : Nat} {t : Tmp} {u : Bool}
end
end Go.Proofs.YtdhjhcdeeelmhaaW.PrintLast
