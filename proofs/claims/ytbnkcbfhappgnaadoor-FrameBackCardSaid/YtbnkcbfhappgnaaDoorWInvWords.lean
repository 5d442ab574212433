import Derived.Test.YtbnkcbfhappgnaaDoorWInv
import Derived.Test.YtbnkcbfhappgnaaDoorWFootNe
namespace Go.Proofs.YtbnkcbfhappgnaaDoorW.PrintWords
open Go.RowKit
end Go.Proofs.YtbnkcbfhappgnaaDoorW.PrintWords
namespace Go.Proofs.YtbnkcbfhappgnaaDoorW.PrintLast
section
variable {ops : Array Oper} {a : Act} {o og : Oper} {g : Nat} {t : Tmp} {u : Bool}
end
end Go.Proofs.YtbnkcbfhappgnaaDoorW.PrintLast
