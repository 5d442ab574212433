import Derived.Maps.RangeWalk
import Derived.Maps.OwnSet
