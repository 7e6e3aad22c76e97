/-
  The data-level logic, part 27: laws under a bound ('upto'), over variables that the program's text has laid.
-/
import Derived.Test.YtlchjjchgebfiaaGreatDoorDp26
import Derived.JoinedCond

namespace Go.Dl
open Go Go.RowKit Go.ChangeShapes
end Go.Dl


