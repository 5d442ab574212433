import Derived.Test.YtfffnogmkbbfkaaDoorHx0
import Derived.Test.YtfffnogmkbbfkaaDoorHx10
namespace Go.Proofs.YtfffnogmkbbfkaaDoor.Fn
open Go.RowKit Go.Proofs.YtfffnogmkbbfkaaDoorW.PrintWords Go.Proofs.YtfffnogmkbbfkaaDoorW.PrintLast Go.Proofs.YtfffnogmkbbfkaaDoorW.PrintMore
attribute [local go_sem] max2_int min2_int max_two min_two max_three min_three max_four min_four
set_option linter.unusedVariables false
set_option linter.unusedSimpArgs false
end Go.Proofs.YtfffnogmkbbfkaaDoor.Fn
