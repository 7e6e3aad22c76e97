/-
  The data-level logic, part 31: slices of slices, given up as data; a row's element that is known.
-/
import Derived.Test.YtlchjjchgebfiaaGreatDoorDp30

namespace Go.Dl
open Go Go.RowKit
end Go.Dl


