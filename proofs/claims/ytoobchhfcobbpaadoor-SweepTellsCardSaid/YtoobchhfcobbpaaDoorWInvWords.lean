import Derived.Test.YtoobchhfcobbpaaDoorWInv
import Derived.Test.YtoobchhfcobbpaaDoorWFootNe
namespace Go.Proofs.YtoobchhfcobbpaaDoorW.PrintWords
open Go.RowKit
end Go.Proofs.YtoobchhfcobbpaaDoorW.PrintWords
namespace Go.Proofs.YtoobchhfcobbpaaDoorW.PrintLast
section
variable {ops : Array Oper} {a : Act} {o og : Oper} {g : Nat} {t : Tmp} {u : Bool}
end
end Go.Proofs.YtoobchhfcobbpaaDoorW.PrintLast
