import Derived.Test.YtbnkcbfhappgnaaDoorHx0
import Derived.Test.YtbnkcbfhappgnaaDoorHx1
import Derived.Test.YtbnkcbfhappgnaaDoorHx6
import Derived.Test.YtbnkcbfhappgnaaDoorHx11
import Derived.Test.YtbnkcbfhappgnaaDoorHx13
namespace Go.Proofs.YtbnkcbfhappgnaaDoor.Fn
set_option maxHeartbeats 8000000
set_option maxRecDepth 100000
open Go.RowKit Go.Proofs.YtbnkcbfhappgnaaDoorW.PrintWords Go.Proofs.YtbnkcbfhappgnaaDoorW.PrintLast Go.Proofs.YtbnkcbfhappgnaaDoorW.PrintMore
attribute [local go_sem] max2_int min2_int max_two min_two max_three min_three max_four min_four
set_option linter.unusedVariables false
set_option linter.unusedSimpArgs false
end Go.Proofs.YtbnkcbfhappgnaaDoor.Fn
