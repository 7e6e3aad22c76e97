/-
  The data-level logic, part 28: a comparison that was walked at this level, handed to the kit's contract of slices.SortFunc.
-/
import Derived.Test.YtlchjjchgebfiaaGreatDoorDp27

namespace Go.Dl
open Go Go.RowKit
end Go.Dl


