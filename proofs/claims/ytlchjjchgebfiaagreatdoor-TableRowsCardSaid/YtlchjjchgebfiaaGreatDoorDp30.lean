/-
  The data-level logic, part 30: errors that are not nil.
-/
import Derived.Test.YtlchjjchgebfiaaGreatDoorDp29

namespace Go.Dl
open Go Go.RowKit
end Go.Dl


