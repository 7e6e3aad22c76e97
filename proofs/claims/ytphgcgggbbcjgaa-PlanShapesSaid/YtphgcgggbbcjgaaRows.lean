/-
  No cell of these rows narrows 'for every input' (looked for: loops, veiled, ifaces, maps, wideKeys, modest, calm, conditions, laid).
  DERIVED. THE GIVEN ROWS OF THIS SEAT. 5 by the template 'for every input the law returns true; each argument reads behind the call as it read before'; 0 by the template 'total and deterministic' (their statements: YtphgcgggbbcjgaaTotals.lean).
  GIVEN WITH THE SEED: the statements are not yours to turn. If you find one false, say at which input.
  Laid BY PROGRAM, IN A SANDBOX (cutbox-rows.mjs): the forced cells as the released guide's own fill.sh prints them over the translation 88231386d3edbc01… (all of the seat's roots in one cut). By AI agents, Wed Nov 11 2026. No macro, syntax, notation, axiom, sorry.
-/
import Derived.Test.YtphgcgggbbcjgaaChecked
import GoSem.Claim
import GoSem.ClaimJoined
import GoSem.ClaimMapViews
import Derived.JoinedTies
import Derived.KernelRfl
namespace Go.Proofs.Ytphgcgggbbcjgaa
/- THE CELL 'sum', in the pinned program and in every row, IS THE sha256 OF THE DUMP (.gsa) THAT YtphgcgggbbcjgaaProg.lean LOADS. Nothing in Lean hashes anything: it is a label: what it is worth is what the hold of that sum in a sandbox is worth. -/
noncomputable def Try.pinned : Pinned := { name := "ytphgcgggbbcjgaa", sum := "88231386d3edbc0187101de2a7ecd55ec33e5676c264bd9e9f50adaef56952b8", checked := Try.checked }
namespace Rows
def none {H : Type} : Left H := { results := [], args := [] }

/-- 'eddylaw23.PlanLinks': WHATEVER THE INPUT: true; the input reads as it did. -/
def planLinksSpec : ChangeSpec := { name := "planLinks", fn := fun _ => fun
  | [d1, d2, d3, d4, d5] => { results := [.lit (.bool true)], args := [d1, d2, d3, d4, d5] }
  | _ => none }
def planLinksRow : OpenClaim := { program := "ytphgcgggbbcjgaa", sum := "88231386d3edbc0187101de2a7ecd55ec33e5676c264bd9e9f50adaef56952b8", func := "eddy/eddylaw23.PlanLinks", spec := "planLinks", unfollowed := true, recurses := true, apart := false }
def PlanLinksSaid : Prop := planLinksRow.holds Try.pinned (OpenSpec.ofChange planLinksSpec)

/-- ITS FALSE NEIGHBOUR: 'it returns false'. Refute it at one input. -/
def planLinksWrong : ChangeSpec := { name := "planLinks", fn := fun _ => fun
  | [d1, d2, d3, d4, d5] => { results := [.lit (.bool false)], args := [d1, d2, d3, d4, d5] }
  | _ => none }
def PlanLinksWrongFalsely : Prop := planLinksRow.holds Try.pinned (OpenSpec.ofChange planLinksWrong)

/-- 'eddylaw23.PlanScripts': WHATEVER THE INPUT: true; the input reads as it did. -/
def planScriptsSpec : ChangeSpec := { name := "planScripts", fn := fun _ => fun
  | [d1, d2, d3, d4, d5, d6] => { results := [.lit (.bool true)], args := [d1, d2, d3, d4, d5, d6] }
  | _ => none }
def planScriptsRow : OpenClaim := { program := "ytphgcgggbbcjgaa", sum := "88231386d3edbc0187101de2a7ecd55ec33e5676c264bd9e9f50adaef56952b8", func := "eddy/eddylaw23.PlanScripts", spec := "planScripts", unfollowed := true, recurses := true, apart := false }
def PlanScriptsSaid : Prop := planScriptsRow.holds Try.pinned (OpenSpec.ofChange planScriptsSpec)

/-- ITS FALSE NEIGHBOUR: 'it returns false'. Refute it at one input. -/
def planScriptsWrong : ChangeSpec := { name := "planScripts", fn := fun _ => fun
  | [d1, d2, d3, d4, d5, d6] => { results := [.lit (.bool false)], args := [d1, d2, d3, d4, d5, d6] }
  | _ => none }
def PlanScriptsWrongFalsely : Prop := planScriptsRow.holds Try.pinned (OpenSpec.ofChange planScriptsWrong)

/-- 'eddylaw23.PlanWays': WHATEVER THE INPUT: true; the input reads as it did. -/
def planWaysSpec : ChangeSpec := { name := "planWays", fn := fun _ => fun
  | [d1, d2] => { results := [.lit (.bool true)], args := [d1, d2] }
  | _ => none }
def planWaysRow : OpenClaim := { program := "ytphgcgggbbcjgaa", sum := "88231386d3edbc0187101de2a7ecd55ec33e5676c264bd9e9f50adaef56952b8", func := "eddy/eddylaw23.PlanWays", spec := "planWays", unfollowed := true, recurses := true, apart := false }
def PlanWaysSaid : Prop := planWaysRow.holds Try.pinned (OpenSpec.ofChange planWaysSpec)

/-- ITS FALSE NEIGHBOUR: 'it returns false'. Refute it at one input. -/
def planWaysWrong : ChangeSpec := { name := "planWays", fn := fun _ => fun
  | [d1, d2] => { results := [.lit (.bool false)], args := [d1, d2] }
  | _ => none }
def PlanWaysWrongFalsely : Prop := planWaysRow.holds Try.pinned (OpenSpec.ofChange planWaysWrong)

/-- 'eddylaw23.PlanTells': WHATEVER THE INPUT: true; the input reads as it did. -/
def planTellsSpec : ChangeSpec := { name := "planTells", fn := fun _ => fun
  | [d1, d2, d3] => { results := [.lit (.bool true)], args := [d1, d2, d3] }
  | _ => none }
def planTellsRow : OpenClaim := { program := "ytphgcgggbbcjgaa", sum := "88231386d3edbc0187101de2a7ecd55ec33e5676c264bd9e9f50adaef56952b8", func := "eddy/eddylaw23.PlanTells", spec := "planTells", unfollowed := true, recurses := true, apart := false }
def PlanTellsSaid : Prop := planTellsRow.holds Try.pinned (OpenSpec.ofChange planTellsSpec)

/-- ITS FALSE NEIGHBOUR: 'it returns false'. Refute it at one input. -/
def planTellsWrong : ChangeSpec := { name := "planTells", fn := fun _ => fun
  | [d1, d2, d3] => { results := [.lit (.bool false)], args := [d1, d2, d3] }
  | _ => none }
def PlanTellsWrongFalsely : Prop := planTellsRow.holds Try.pinned (OpenSpec.ofChange planTellsWrong)

/-- 'eddylaw23.PlanShapes': WHATEVER THE INPUT: true; the input reads as it did. -/
def planShapesSpec : ChangeSpec := { name := "planShapes", fn := fun _ => fun
  | [d1, d2, d3] => { results := [.lit (.bool true)], args := [d1, d2, d3] }
  | _ => none }
def planShapesRow : OpenClaim := { program := "ytphgcgggbbcjgaa", sum := "88231386d3edbc0187101de2a7ecd55ec33e5676c264bd9e9f50adaef56952b8", func := "eddy/eddylaw23.PlanShapes", spec := "planShapes", unfollowed := true, recurses := true, apart := false }
def PlanShapesSaid : Prop := planShapesRow.holds Try.pinned (OpenSpec.ofChange planShapesSpec)

/-- ITS FALSE NEIGHBOUR: 'it returns false'. Refute it at one input. -/
def planShapesWrong : ChangeSpec := { name := "planShapes", fn := fun _ => fun
  | [d1, d2, d3] => { results := [.lit (.bool false)], args := [d1, d2, d3] }
  | _ => none }
def PlanShapesWrongFalsely : Prop := planShapesRow.holds Try.pinned (OpenSpec.ofChange planShapesWrong)

/- THE SECOND FORM. 'bulk': how many values and letters a reading holds, each counted each time it is reached (what is shared counts as often as it is met; a slice's spare places count too). A statement '..UptoSaid' is the law's where the arguments, and the package variables that the reading takes, are together of bulk at most 1048576: NARROWER than '..Said'. Prove '..Said' where nothing that the law and all that it calls make is longer than what came in: it says more and counts as full. Else prove '..UptoSaid'. A law counts once. -/
mutual
def uptoBulk {H : Type} : DataW H → Nat
  | .lit (.string bytes) => bytes.length + 1
  | .lit _ => 1
  | .nil => 1
  | .ptr d => uptoBulk d + 1
  | .slice elems spare => uptoBulkAll elems + uptoBulkAll spare + 1
  | .agg parts => uptoBulkAll parts + 1
  | .iface _ d => uptoBulk d + 1
  | .map entries => uptoBulkEntries entries + 1
  | .held _ => 1
def uptoBulkAll {H : Type} : List (DataW H) → Nat
  | [] => 0
  | d :: r => uptoBulk d + uptoBulkAll r
def uptoBulkEntries {H : Type} : List (Lit × DataW H) → Nat
  | [] => 0
  | x :: r => uptoBulkEntry x + uptoBulkEntries r
def uptoBulkEntry {H : Type} : Lit × DataW H → Nat
  | (.string bytes, d) => bytes.length + uptoBulk d + 1
  | (_, d) => uptoBulk d + 1
 end
def uptoSmall : (H : Type) → List (DataW H) → Bool := fun _ ds => decide (uptoBulkAll ds ≤ 1048576)
def OpenSpec.upto (s : _root_.Go.ChangeSpec) : _root_.Go.OpenSpec := { _root_.Go.OpenSpec.ofChange s with cond := some uptoSmall }

/-- 'eddylaw23.PlanLinks', WHERE WHAT IT READS IS OF BULK AT MOST 1048576: true; the input reads as it did. -/
def planLinksUptoRow : OpenClaim := { program := "ytphgcgggbbcjgaa", sum := "88231386d3edbc0187101de2a7ecd55ec33e5676c264bd9e9f50adaef56952b8", func := "eddy/eddylaw23.PlanLinks", spec := "planLinks", unfollowed := true, recurses := true, apart := false, narrowed := true }
def PlanLinksUptoSaid : Prop := planLinksUptoRow.holds Try.pinned (OpenSpec.upto planLinksSpec)

/-- 'eddylaw23.PlanScripts', WHERE WHAT IT READS IS OF BULK AT MOST 1048576: true; the input reads as it did. -/
def planScriptsUptoRow : OpenClaim := { program := "ytphgcgggbbcjgaa", sum := "88231386d3edbc0187101de2a7ecd55ec33e5676c264bd9e9f50adaef56952b8", func := "eddy/eddylaw23.PlanScripts", spec := "planScripts", unfollowed := true, recurses := true, apart := false, narrowed := true }
def PlanScriptsUptoSaid : Prop := planScriptsUptoRow.holds Try.pinned (OpenSpec.upto planScriptsSpec)

/-- 'eddylaw23.PlanWays', WHERE WHAT IT READS IS OF BULK AT MOST 1048576: true; the input reads as it did. -/
def planWaysUptoRow : OpenClaim := { program := "ytphgcgggbbcjgaa", sum := "88231386d3edbc0187101de2a7ecd55ec33e5676c264bd9e9f50adaef56952b8", func := "eddy/eddylaw23.PlanWays", spec := "planWays", unfollowed := true, recurses := true, apart := false, narrowed := true }
def PlanWaysUptoSaid : Prop := planWaysUptoRow.holds Try.pinned (OpenSpec.upto planWaysSpec)

/-- 'eddylaw23.PlanTells', WHERE WHAT IT READS IS OF BULK AT MOST 1048576: true; the input reads as it did. -/
def planTellsUptoRow : OpenClaim := { program := "ytphgcgggbbcjgaa", sum := "88231386d3edbc0187101de2a7ecd55ec33e5676c264bd9e9f50adaef56952b8", func := "eddy/eddylaw23.PlanTells", spec := "planTells", unfollowed := true, recurses := true, apart := false, narrowed := true }
def PlanTellsUptoSaid : Prop := planTellsUptoRow.holds Try.pinned (OpenSpec.upto planTellsSpec)

/-- 'eddylaw23.PlanShapes', WHERE WHAT IT READS IS OF BULK AT MOST 1048576: true; the input reads as it did. -/
def planShapesUptoRow : OpenClaim := { program := "ytphgcgggbbcjgaa", sum := "88231386d3edbc0187101de2a7ecd55ec33e5676c264bd9e9f50adaef56952b8", func := "eddy/eddylaw23.PlanShapes", spec := "planShapes", unfollowed := true, recurses := true, apart := false, narrowed := true }
def PlanShapesUptoSaid : Prop := planShapesUptoRow.holds Try.pinned (OpenSpec.upto planShapesSpec)

end Rows
end Go.Proofs.Ytphgcgggbbcjgaa
