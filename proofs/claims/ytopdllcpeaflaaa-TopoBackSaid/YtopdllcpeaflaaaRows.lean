/-
  No cell of these rows narrows 'for every input' (looked for: loops, veiled, ifaces, maps, wideKeys, modest, calm, conditions, laid).
  DERIVED. THE GIVEN ROWS OF THIS SEAT. 8 by the template 'for every input the law returns true; each argument reads behind the call as it read before'; 0 by the template 'total and deterministic' (their statements: YtopdllcpeaflaaaTotals.lean).
  GIVEN WITH THE SEED: the statements are not yours to turn. If you find one false, say at which input.
  Laid BY PROGRAM, IN A SANDBOX (cutbox-rows.mjs): the forced cells as the released guide's own fill.sh prints them over the translation 589dff796d7f231d… (all of the seat's roots in one cut). By AI agents, Wed Nov 11 2026. No macro, syntax, notation, axiom, sorry.
-/
import Derived.Test.YtopdllcpeaflaaaChecked
import GoSem.Claim
import GoSem.ClaimJoined
import GoSem.ClaimMapViews
import Derived.JoinedTies
import Derived.KernelRfl
namespace Go.Proofs.Ytopdllcpeaflaaa
/- THE CELL 'sum', in the pinned program and in every row, IS THE sha256 OF THE DUMP (.gsa) THAT YtopdllcpeaflaaaProg.lean LOADS. Nothing in Lean hashes anything: it is a label: what it is worth is what the hold of that sum in a sandbox is worth. -/
noncomputable def Try.pinned : Pinned := { name := "ytopdllcpeaflaaa", sum := "589dff796d7f231da7a26b7f8fdc0bde2784b2bff5686d504ac7429eab3585a1", checked := Try.checked }
namespace Rows
def none {H : Type} : Left H := { results := [], args := [] }

/-- 'eddylaw15.MissPlays': WHATEVER THE INPUT: true; the input reads as it did. -/
def missPlaysSpec : ChangeSpec := { name := "missPlays", fn := fun _ => fun
  | [d1, d2, d3] => { results := [.lit (.bool true)], args := [d1, d2, d3] }
  | _ => none }
def missPlaysRow : OpenClaim := { program := "ytopdllcpeaflaaa", sum := "589dff796d7f231da7a26b7f8fdc0bde2784b2bff5686d504ac7429eab3585a1", func := "eddy/eddylaw15.MissPlays", spec := "missPlays", unfollowed := true, recurses := true, apart := false }
def MissPlaysSaid : Prop := missPlaysRow.holds Try.pinned (OpenSpec.ofChange missPlaysSpec)

/-- ITS FALSE NEIGHBOUR: 'it returns false'. Refute it at one input. -/
def missPlaysWrong : ChangeSpec := { name := "missPlays", fn := fun _ => fun
  | [d1, d2, d3] => { results := [.lit (.bool false)], args := [d1, d2, d3] }
  | _ => none }
def MissPlaysWrongFalsely : Prop := missPlaysRow.holds Try.pinned (OpenSpec.ofChange missPlaysWrong)

/-- 'eddylaw15.MissDrops': WHATEVER THE INPUT: true; the input reads as it did. -/
def missDropsSpec : ChangeSpec := { name := "missDrops", fn := fun _ => fun
  | [d1, d2] => { results := [.lit (.bool true)], args := [d1, d2] }
  | _ => none }
def missDropsRow : OpenClaim := { program := "ytopdllcpeaflaaa", sum := "589dff796d7f231da7a26b7f8fdc0bde2784b2bff5686d504ac7429eab3585a1", func := "eddy/eddylaw15.MissDrops", spec := "missDrops", unfollowed := true, recurses := true, apart := false }
def MissDropsSaid : Prop := missDropsRow.holds Try.pinned (OpenSpec.ofChange missDropsSpec)

/-- ITS FALSE NEIGHBOUR: 'it returns false'. Refute it at one input. -/
def missDropsWrong : ChangeSpec := { name := "missDrops", fn := fun _ => fun
  | [d1, d2] => { results := [.lit (.bool false)], args := [d1, d2] }
  | _ => none }
def MissDropsWrongFalsely : Prop := missDropsRow.holds Try.pinned (OpenSpec.ofChange missDropsWrong)

/-- 'eddylaw15.MissLives': WHATEVER THE INPUT: true; the input reads as it did. -/
def missLivesSpec : ChangeSpec := { name := "missLives", fn := fun _ => fun
  | [d1, d2, d3] => { results := [.lit (.bool true)], args := [d1, d2, d3] }
  | _ => none }
def missLivesRow : OpenClaim := { program := "ytopdllcpeaflaaa", sum := "589dff796d7f231da7a26b7f8fdc0bde2784b2bff5686d504ac7429eab3585a1", func := "eddy/eddylaw15.MissLives", spec := "missLives", unfollowed := true, recurses := true, apart := false }
def MissLivesSaid : Prop := missLivesRow.holds Try.pinned (OpenSpec.ofChange missLivesSpec)

/-- ITS FALSE NEIGHBOUR: 'it returns false'. Refute it at one input. -/
def missLivesWrong : ChangeSpec := { name := "missLives", fn := fun _ => fun
  | [d1, d2, d3] => { results := [.lit (.bool false)], args := [d1, d2, d3] }
  | _ => none }
def MissLivesWrongFalsely : Prop := missLivesRow.holds Try.pinned (OpenSpec.ofChange missLivesWrong)

/-- 'eddylaw15.MissTells': WHATEVER THE INPUT: true; the input reads as it did. -/
def missTellsSpec : ChangeSpec := { name := "missTells", fn := fun _ => fun
  | [d1, d2] => { results := [.lit (.bool true)], args := [d1, d2] }
  | _ => none }
def missTellsRow : OpenClaim := { program := "ytopdllcpeaflaaa", sum := "589dff796d7f231da7a26b7f8fdc0bde2784b2bff5686d504ac7429eab3585a1", func := "eddy/eddylaw15.MissTells", spec := "missTells", unfollowed := true, recurses := true, apart := false }
def MissTellsSaid : Prop := missTellsRow.holds Try.pinned (OpenSpec.ofChange missTellsSpec)

/-- ITS FALSE NEIGHBOUR: 'it returns false'. Refute it at one input. -/
def missTellsWrong : ChangeSpec := { name := "missTells", fn := fun _ => fun
  | [d1, d2] => { results := [.lit (.bool false)], args := [d1, d2] }
  | _ => none }
def MissTellsWrongFalsely : Prop := missTellsRow.holds Try.pinned (OpenSpec.ofChange missTellsWrong)

/-- 'eddylaw13.TopoFits': WHATEVER THE INPUT: true; the input reads as it did. -/
def topoFitsSpec : ChangeSpec := { name := "topoFits", fn := fun _ => fun
  | [d1, d2, d3] => { results := [.lit (.bool true)], args := [d1, d2, d3] }
  | _ => none }
def topoFitsRow : OpenClaim := { program := "ytopdllcpeaflaaa", sum := "589dff796d7f231da7a26b7f8fdc0bde2784b2bff5686d504ac7429eab3585a1", func := "eddy/eddylaw13.TopoFits", spec := "topoFits", unfollowed := true, recurses := true, apart := false }
def TopoFitsSaid : Prop := topoFitsRow.holds Try.pinned (OpenSpec.ofChange topoFitsSpec)

/-- ITS FALSE NEIGHBOUR: 'it returns false'. Refute it at one input. -/
def topoFitsWrong : ChangeSpec := { name := "topoFits", fn := fun _ => fun
  | [d1, d2, d3] => { results := [.lit (.bool false)], args := [d1, d2, d3] }
  | _ => none }
def TopoFitsWrongFalsely : Prop := topoFitsRow.holds Try.pinned (OpenSpec.ofChange topoFitsWrong)

/-- 'eddylaw13.TopoTells': WHATEVER THE INPUT: true; the input reads as it did. -/
def topoTellsSpec : ChangeSpec := { name := "topoTells", fn := fun _ => fun
  | [d1, d2, d3, d4, d5] => { results := [.lit (.bool true)], args := [d1, d2, d3, d4, d5] }
  | _ => none }
def topoTellsRow : OpenClaim := { program := "ytopdllcpeaflaaa", sum := "589dff796d7f231da7a26b7f8fdc0bde2784b2bff5686d504ac7429eab3585a1", func := "eddy/eddylaw13.TopoTells", spec := "topoTells", unfollowed := true, recurses := true, apart := false }
def TopoTellsSaid : Prop := topoTellsRow.holds Try.pinned (OpenSpec.ofChange topoTellsSpec)

/-- ITS FALSE NEIGHBOUR: 'it returns false'. Refute it at one input. -/
def topoTellsWrong : ChangeSpec := { name := "topoTells", fn := fun _ => fun
  | [d1, d2, d3, d4, d5] => { results := [.lit (.bool false)], args := [d1, d2, d3, d4, d5] }
  | _ => none }
def TopoTellsWrongFalsely : Prop := topoTellsRow.holds Try.pinned (OpenSpec.ofChange topoTellsWrong)

/-- 'eddylaw13.TopoTurns': WHATEVER THE INPUT: true; the input reads as it did. -/
def topoTurnsSpec : ChangeSpec := { name := "topoTurns", fn := fun _ => fun
  | [d1, d2, d3] => { results := [.lit (.bool true)], args := [d1, d2, d3] }
  | _ => none }
def topoTurnsRow : OpenClaim := { program := "ytopdllcpeaflaaa", sum := "589dff796d7f231da7a26b7f8fdc0bde2784b2bff5686d504ac7429eab3585a1", func := "eddy/eddylaw13.TopoTurns", spec := "topoTurns", unfollowed := true, recurses := true, apart := false }
def TopoTurnsSaid : Prop := topoTurnsRow.holds Try.pinned (OpenSpec.ofChange topoTurnsSpec)

/-- ITS FALSE NEIGHBOUR: 'it returns false'. Refute it at one input. -/
def topoTurnsWrong : ChangeSpec := { name := "topoTurns", fn := fun _ => fun
  | [d1, d2, d3] => { results := [.lit (.bool false)], args := [d1, d2, d3] }
  | _ => none }
def TopoTurnsWrongFalsely : Prop := topoTurnsRow.holds Try.pinned (OpenSpec.ofChange topoTurnsWrong)

/-- 'eddylaw13.TopoBack': WHATEVER THE INPUT: true; the input reads as it did. -/
def topoBackSpec : ChangeSpec := { name := "topoBack", fn := fun _ => fun
  | [d1, d2, d3, d4] => { results := [.lit (.bool true)], args := [d1, d2, d3, d4] }
  | _ => none }
def topoBackRow : OpenClaim := { program := "ytopdllcpeaflaaa", sum := "589dff796d7f231da7a26b7f8fdc0bde2784b2bff5686d504ac7429eab3585a1", func := "eddy/eddylaw13.TopoBack", spec := "topoBack", unfollowed := true, recurses := true, apart := false }
def TopoBackSaid : Prop := topoBackRow.holds Try.pinned (OpenSpec.ofChange topoBackSpec)

/-- ITS FALSE NEIGHBOUR: 'it returns false'. Refute it at one input. -/
def topoBackWrong : ChangeSpec := { name := "topoBack", fn := fun _ => fun
  | [d1, d2, d3, d4] => { results := [.lit (.bool false)], args := [d1, d2, d3, d4] }
  | _ => none }
def TopoBackWrongFalsely : Prop := topoBackRow.holds Try.pinned (OpenSpec.ofChange topoBackWrong)

/- THE SECOND FORM. 'bulk': how many values and letters a reading holds, each counted each time it is reached (what is shared counts as often as it is met; a slice's spare places count too). A statement '..UptoSaid' is the law's where the arguments, and the package variables that the reading takes, are together of bulk at most 1048576: NARROWER than '..Said'. Prove '..Said' where nothing that the law and all that it calls make is longer than what came in: it says more and counts as full. Else prove '..UptoSaid'. A law counts once. -/
mutual
def uptoBulk {H : Type} : DataW H → Nat
  | .lit (.string bytes) => bytes.length + 1
  | .lit _ => 1
  | .nil => 1
  | .ptr d => uptoBulk d + 1
  | .slice elems spare => uptoBulkAll elems + uptoBulkAll spare + 1
  | .agg parts => uptoBulkAll parts + 1
  | .iface _ d => uptoBulk d + 1
  | .map entries => uptoBulkEntries entries + 1
  | .held _ => 1
def uptoBulkAll {H : Type} : List (DataW H) → Nat
  | [] => 0
  | d :: r => uptoBulk d + uptoBulkAll r
def uptoBulkEntries {H : Type} : List (Lit × DataW H) → Nat
  | [] => 0
  | x :: r => uptoBulkEntry x + uptoBulkEntries r
def uptoBulkEntry {H : Type} : Lit × DataW H → Nat
  | (.string bytes, d) => bytes.length + uptoBulk d + 1
  | (_, d) => uptoBulk d + 1
 end
def uptoSmall : (H : Type) → List (DataW H) → Bool := fun _ ds => decide (uptoBulkAll ds ≤ 1048576)
def OpenSpec.upto (s : _root_.Go.ChangeSpec) : _root_.Go.OpenSpec := { _root_.Go.OpenSpec.ofChange s with cond := some uptoSmall }

/-- 'eddylaw15.MissPlays', WHERE WHAT IT READS IS OF BULK AT MOST 1048576: true; the input reads as it did. -/
def missPlaysUptoRow : OpenClaim := { program := "ytopdllcpeaflaaa", sum := "589dff796d7f231da7a26b7f8fdc0bde2784b2bff5686d504ac7429eab3585a1", func := "eddy/eddylaw15.MissPlays", spec := "missPlays", unfollowed := true, recurses := true, apart := false, narrowed := true }
def MissPlaysUptoSaid : Prop := missPlaysUptoRow.holds Try.pinned (OpenSpec.upto missPlaysSpec)

/-- 'eddylaw15.MissDrops', WHERE WHAT IT READS IS OF BULK AT MOST 1048576: true; the input reads as it did. -/
def missDropsUptoRow : OpenClaim := { program := "ytopdllcpeaflaaa", sum := "589dff796d7f231da7a26b7f8fdc0bde2784b2bff5686d504ac7429eab3585a1", func := "eddy/eddylaw15.MissDrops", spec := "missDrops", unfollowed := true, recurses := true, apart := false, narrowed := true }
def MissDropsUptoSaid : Prop := missDropsUptoRow.holds Try.pinned (OpenSpec.upto missDropsSpec)

/-- 'eddylaw15.MissLives', WHERE WHAT IT READS IS OF BULK AT MOST 1048576: true; the input reads as it did. -/
def missLivesUptoRow : OpenClaim := { program := "ytopdllcpeaflaaa", sum := "589dff796d7f231da7a26b7f8fdc0bde2784b2bff5686d504ac7429eab3585a1", func := "eddy/eddylaw15.MissLives", spec := "missLives", unfollowed := true, recurses := true, apart := false, narrowed := true }
def MissLivesUptoSaid : Prop := missLivesUptoRow.holds Try.pinned (OpenSpec.upto missLivesSpec)

/-- 'eddylaw15.MissTells', WHERE WHAT IT READS IS OF BULK AT MOST 1048576: true; the input reads as it did. -/
def missTellsUptoRow : OpenClaim := { program := "ytopdllcpeaflaaa", sum := "589dff796d7f231da7a26b7f8fdc0bde2784b2bff5686d504ac7429eab3585a1", func := "eddy/eddylaw15.MissTells", spec := "missTells", unfollowed := true, recurses := true, apart := false, narrowed := true }
def MissTellsUptoSaid : Prop := missTellsUptoRow.holds Try.pinned (OpenSpec.upto missTellsSpec)

/-- 'eddylaw13.TopoFits', WHERE WHAT IT READS IS OF BULK AT MOST 1048576: true; the input reads as it did. -/
def topoFitsUptoRow : OpenClaim := { program := "ytopdllcpeaflaaa", sum := "589dff796d7f231da7a26b7f8fdc0bde2784b2bff5686d504ac7429eab3585a1", func := "eddy/eddylaw13.TopoFits", spec := "topoFits", unfollowed := true, recurses := true, apart := false, narrowed := true }
def TopoFitsUptoSaid : Prop := topoFitsUptoRow.holds Try.pinned (OpenSpec.upto topoFitsSpec)

/-- 'eddylaw13.TopoTells', WHERE WHAT IT READS IS OF BULK AT MOST 1048576: true; the input reads as it did. -/
def topoTellsUptoRow : OpenClaim := { program := "ytopdllcpeaflaaa", sum := "589dff796d7f231da7a26b7f8fdc0bde2784b2bff5686d504ac7429eab3585a1", func := "eddy/eddylaw13.TopoTells", spec := "topoTells", unfollowed := true, recurses := true, apart := false, narrowed := true }
def TopoTellsUptoSaid : Prop := topoTellsUptoRow.holds Try.pinned (OpenSpec.upto topoTellsSpec)

/-- 'eddylaw13.TopoTurns', WHERE WHAT IT READS IS OF BULK AT MOST 1048576: true; the input reads as it did. -/
def topoTurnsUptoRow : OpenClaim := { program := "ytopdllcpeaflaaa", sum := "589dff796d7f231da7a26b7f8fdc0bde2784b2bff5686d504ac7429eab3585a1", func := "eddy/eddylaw13.TopoTurns", spec := "topoTurns", unfollowed := true, recurses := true, apart := false, narrowed := true }
def TopoTurnsUptoSaid : Prop := topoTurnsUptoRow.holds Try.pinned (OpenSpec.upto topoTurnsSpec)

/-- 'eddylaw13.TopoBack', WHERE WHAT IT READS IS OF BULK AT MOST 1048576: true; the input reads as it did. -/
def topoBackUptoRow : OpenClaim := { program := "ytopdllcpeaflaaa", sum := "589dff796d7f231da7a26b7f8fdc0bde2784b2bff5686d504ac7429eab3585a1", func := "eddy/eddylaw13.TopoBack", spec := "topoBack", unfollowed := true, recurses := true, apart := false, narrowed := true }
def TopoBackUptoSaid : Prop := topoBackUptoRow.holds Try.pinned (OpenSpec.upto topoBackSpec)

end Rows
end Go.Proofs.Ytopdllcpeaflaaa
