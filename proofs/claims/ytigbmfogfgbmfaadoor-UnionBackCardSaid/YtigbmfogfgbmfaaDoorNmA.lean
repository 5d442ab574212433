import Derived.Test.YtigbmfogfgbmfaaDoorU
import Derived.Lib.ValidLaws
import Derived.Lib.DecodeN
import Derived.Test.YtigbmfogfgbmfaaDoorHx0
import Derived.Test.YtigbmfogfgbmfaaDoorHx1
import Derived.Test.YtigbmfogfgbmfaaDoorHx7
namespace Go.Proofs.YtigbmfogfgbmfaaDoor.Pure
open Go.RowKit Go.Proofs.YtigbmfogfgbmfaaDoor.Fn Go.Proofs.YtigbmfogfgbmfaaDoorW.PrintWords Go.Proofs.YtigbmfogfgbmfaaDoorW.PrintLast Go.Proofs.YtigbmfogfgbmfaaDoor.U
set_option linter.unusedVariables false
set_option linter.unusedSimpArgs false
def chkV (s : ByteArray) : Int := if s.toList = ([] : List UInt8) then 206 else if (s.size : Int) > 100 then 208 else if s.toList = ([46] : List UInt8) then 206 else if s.toList = ([46, 46] : List UInt8) then 206 else if Lib.validD s.data.toList = true then (if nmBad s s.size 0 = true then 206 else 0) else 206
theorem name_Check_eq (s : ByteArray) : name_Check.f s = some (chkV s) := rfl
section
variable (s : ByteArray) (n : Int) (least : Int)
end
end Go.Proofs.YtigbmfogfgbmfaaDoor.Pure
