import Derived.Stop.Asserts
import Derived.LaidEql
import Derived.Lib.IfaceEq
