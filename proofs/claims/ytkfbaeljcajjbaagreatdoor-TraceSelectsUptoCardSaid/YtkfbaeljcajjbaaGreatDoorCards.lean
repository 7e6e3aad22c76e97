/-
  DERIVED. GIVEN WITH THE SEED: THE CARDS: each row of YtkfbaeljcajjbaaGreatDoorRows.lean that lists a variable, with what it lists TIED to the program's text (the seventh form; the later family's looks); each row that meets fmt, with fmt's text TOLD by the authors' own Lean function (tested against real Go, not proved from fmt's source: count such statements apart). THE CARD IS WHAT COUNTS. Prove the row's statement (the work); the ties are given (YtkfbaeljcajjbaaGreatDoorTie.lean); close each card by the builder's one call (the guide's Derived/Test/ToyasCard.lean, 'card_holds'). Laid BY PROGRAM, IN A SANDBOX (cutbox-door.mjs). By AI agents, Wed Nov 11 2026. No macro, syntax, notation, axiom, sorry.
-/
import Derived.Test.YtkfbaeljcajjbaaGreatDoorRows
import GoSem.ClaimSeven
namespace Go.Proofs.YtkfbaeljcajjbaaGreatDoor
namespace Rows

/-- THE TIED CARD OF 'eddylaw37.TraceLines'. -/
def traceLinesCard : Claim7 := { stood := { row := traceLinesRow, standIns := [], harness := (true, "896081e7ddeeed85531f4201e1a2cec40bb160cb2aad202313991f90008a3838"), looks := true }, kinds := [], alts := [], laidByText := true, laidKinds := [.data, .data, .data, .data, .sentinel, .sentinel, .pinned], laidTests := true, laidLooks := .later }
def TraceLinesCardSaid : Prop := Claim7.holds Tryz.pinned (.plain (OpenSpec.ofChange traceLinesSpec)) traceLinesCard

/-- THE TIED CARD OF 'eddylaw37.TraceBack'. -/
def traceBackCard : Claim7 := { stood := { row := traceBackRow, standIns := [], harness := (true, "896081e7ddeeed85531f4201e1a2cec40bb160cb2aad202313991f90008a3838"), looks := true }, kinds := [], alts := [], laidByText := true, laidKinds := [.data, .data, .data, .data, .sentinel, .sentinel, .pinned], laidTests := true, laidLooks := .later }
def TraceBackCardSaid : Prop := Claim7.holds Tryz.pinned (.plain (OpenSpec.ofChange traceBackSpec)) traceBackCard

/-- THE TIED CARD OF 'eddylaw37.TraceTwice'. -/
def traceTwiceCard : Claim7 := { stood := { row := traceTwiceRow, standIns := [], harness := (true, "896081e7ddeeed85531f4201e1a2cec40bb160cb2aad202313991f90008a3838"), looks := true }, kinds := [], alts := [], laidByText := true, laidKinds := [.data, .data, .data, .data, .sentinel, .sentinel, .pinned], laidTests := true, laidLooks := .later }
def TraceTwiceCardSaid : Prop := Claim7.holds Tryz.pinned (.plain (OpenSpec.ofChange traceTwiceSpec)) traceTwiceCard

/-- THE TIED CARD OF 'eddylaw37.TraceSelects'. -/
def traceSelectsCard : Claim7 := { stood := { row := traceSelectsRow, standIns := [], harness := (true, "896081e7ddeeed85531f4201e1a2cec40bb160cb2aad202313991f90008a3838"), looks := true }, kinds := [], alts := [], laidByText := true, laidKinds := [.data, .data, .data, .data, .sentinel, .sentinel, .pinned], laidTests := true, laidLooks := .later }
def TraceSelectsCardSaid : Prop := Claim7.holds Tryz.pinned (.plain (OpenSpec.ofChange traceSelectsSpec)) traceSelectsCard

/-- THE SECOND FORM's CARD OF 'eddylaw37.TraceLines'. -/
def traceLinesUptoCard : Claim7 := { stood := { row := traceLinesUptoRow, standIns := [], harness := (true, "896081e7ddeeed85531f4201e1a2cec40bb160cb2aad202313991f90008a3838"), looks := true }, kinds := [], alts := [], laidByText := true, laidKinds := [.data, .data, .data, .data, .sentinel, .sentinel, .pinned], laidTests := true, laidLooks := .later }
def TraceLinesUptoCardSaid : Prop := Claim7.holds Tryz.pinned (.plain (OpenSpec.upto traceLinesSpec)) traceLinesUptoCard

/-- THE SECOND FORM's CARD OF 'eddylaw37.TraceBack'. -/
def traceBackUptoCard : Claim7 := { stood := { row := traceBackUptoRow, standIns := [], harness := (true, "896081e7ddeeed85531f4201e1a2cec40bb160cb2aad202313991f90008a3838"), looks := true }, kinds := [], alts := [], laidByText := true, laidKinds := [.data, .data, .data, .data, .sentinel, .sentinel, .pinned], laidTests := true, laidLooks := .later }
def TraceBackUptoCardSaid : Prop := Claim7.holds Tryz.pinned (.plain (OpenSpec.upto traceBackSpec)) traceBackUptoCard

/-- THE SECOND FORM's CARD OF 'eddylaw37.TraceTwice'. -/
def traceTwiceUptoCard : Claim7 := { stood := { row := traceTwiceUptoRow, standIns := [], harness := (true, "896081e7ddeeed85531f4201e1a2cec40bb160cb2aad202313991f90008a3838"), looks := true }, kinds := [], alts := [], laidByText := true, laidKinds := [.data, .data, .data, .data, .sentinel, .sentinel, .pinned], laidTests := true, laidLooks := .later }
def TraceTwiceUptoCardSaid : Prop := Claim7.holds Tryz.pinned (.plain (OpenSpec.upto traceTwiceSpec)) traceTwiceUptoCard

/-- THE SECOND FORM's CARD OF 'eddylaw37.TraceSelects'. -/
def traceSelectsUptoCard : Claim7 := { stood := { row := traceSelectsUptoRow, standIns := [], harness := (true, "896081e7ddeeed85531f4201e1a2cec40bb160cb2aad202313991f90008a3838"), looks := true }, kinds := [], alts := [], laidByText := true, laidKinds := [.data, .data, .data, .data, .sentinel, .sentinel, .pinned], laidTests := true, laidLooks := .later }
def TraceSelectsUptoCardSaid : Prop := Claim7.holds Tryz.pinned (.plain (OpenSpec.upto traceSelectsSpec)) traceSelectsUptoCard
end Rows
end Go.Proofs.YtkfbaeljcajjbaaGreatDoor
