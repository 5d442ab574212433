import Derived.Test.YtjjbofbkpmabbaaWInv
import Derived.Test.YtjjbofbkpmabbaaWFootNe
namespace Go.Proofs.YtjjbofbkpmabbaaW.PrintWords
open Go.RowKit
end Go.Proofs.YtjjbofbkpmabbaaW.PrintWords
namespace Go.Proofs.YtjjbofbkpmabbaaW.PrintLast
section
variable {ops : Array Oper} {a : Act} {o og : Oper} {g : Nat} {t : Tmp} {u : Bool}
end
end Go.Proofs.YtjjbofbkpmabbaaW.PrintLast
