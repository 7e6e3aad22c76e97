/-
  The data-level logic, part 23: calls with a slice that may be nil.
-/
import Derived.Test.YtlchjjchgebfiaaGreatDoorDp22

namespace Go.Dl
open Go Go.RowKit
theorem enters_mark {P : Program} {f : FuncId} (h : entersB P f = true) : entersB P f = true := h
end Go.Dl


