/-
  The data-level logic, part 16: scopes (labels that the code jumps to).
-/
import Derived.Test.YtlchjjchgebfiaaGreatDoorDp15
import Derived.ScopeJumps

namespace Go.Dl
open Go Go.RowKit
def dnoGoto (Q : DExit → St → Prop) : DExit → St → Prop
  | .goto _, _ => False
  | e, st => Q e st
theorem Tri.scope [Inhabited GlobS] {P : Program} {N : Nat} {Y : YT} {c : Code} {st : St} {Q : DExit → St → Prop} (hk : codeOk P N c = true) (h : dcode P N Y c st (dnoGoto Q)) : Tri P N Y (.scope c) st Q := fun G hN hY β a w R hr hR =>
  wpIn_scope_straight (dcode_sound c hk h G hN hY β a w _ hr fun e st' β' a' w' hq hr' => by
    cases e with
    | normal => exact hR .normal _ _ _ _ hq hr'
    | exit id => exact hR (.exit id) _ _ _ _ hq hr'
    | goto l => exact hq.elim
    | ret => exact hR .ret _ _ _ _ hq hr')
end Go.Dl


