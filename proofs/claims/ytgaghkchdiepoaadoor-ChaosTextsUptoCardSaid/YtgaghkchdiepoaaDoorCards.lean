/-
  DERIVED. GIVEN WITH THE SEED: THE CARDS: each row of YtgaghkchdiepoaaDoorRows.lean that lists a variable, with what it lists TIED to the program's text (the seventh form; the later family's looks); each row that meets fmt, with fmt's text TOLD by the authors' own Lean function (tested against real Go, not proved from fmt's source: count such statements apart). THE CARD IS WHAT COUNTS. Prove the row's statement (the work); the ties are given (YtgaghkchdiepoaaDoorTie.lean); close each card by the builder's one call (the guide's Derived/Test/ToyasCard.lean, 'card_holds'). Laid BY PROGRAM, IN A SANDBOX (cutbox-door.mjs). By AI agents, Wed Nov 11 2026. No macro, syntax, notation, axiom, sorry.
-/
import Derived.Test.YtgaghkchdiepoaaDoorRows
import GoSem.ClaimSeven
namespace Go.Proofs.YtgaghkchdiepoaaDoor
namespace Rows

/-- THE TIED CARD OF 'eddylaw40.ChaosFits'. -/
def chaosFitsCard : Claim7 := { stood := { row := chaosFitsRow, standIns := [], harness := (true, "bb133f76c30fb3626d0039d038f10b07264f376b2d6cd1ce6baf24f0305239a8"), looks := true }, kinds := [], alts := [], laidByText := true, laidKinds := [.data, .data, .data, .data, .sentinel, .sentinel, .pinned], laidTests := true, laidLooks := .later }
def ChaosFitsCardSaid : Prop := Claim7.holds Tryd.pinned (.plain (OpenSpec.ofChange chaosFitsSpec)) chaosFitsCard

/-- THE TIED CARD OF 'eddylaw40.ChaosLays'. -/
def chaosLaysCard : Claim7 := { stood := { row := chaosLaysRow, standIns := [], harness := (true, "bb133f76c30fb3626d0039d038f10b07264f376b2d6cd1ce6baf24f0305239a8"), looks := true }, kinds := [], alts := [], laidByText := true, laidKinds := [.data, .data, .data, .data, .sentinel, .sentinel, .pinned], laidTests := true, laidLooks := .later }
def ChaosLaysCardSaid : Prop := Claim7.holds Tryd.pinned (.plain (OpenSpec.ofChange chaosLaysSpec)) chaosLaysCard

/-- THE TIED CARD OF 'eddylaw40.ChaosTexts'. -/
def chaosTextsCard : Claim7 := { stood := { row := chaosTextsRow, standIns := [], harness := (true, "bb133f76c30fb3626d0039d038f10b07264f376b2d6cd1ce6baf24f0305239a8"), looks := true }, kinds := [], alts := [], laidByText := true, laidKinds := [.data, .data, .data, .data, .sentinel, .sentinel, .pinned], laidTests := true, laidLooks := .later }
def ChaosTextsCardSaid : Prop := Claim7.holds Tryd.pinned (.plain (OpenSpec.ofChange chaosTextsSpec)) chaosTextsCard

/-- THE TIED CARD OF 'eddylaw40.ChaosStorms'. -/
def chaosStormsCard : Claim7 := { stood := { row := chaosStormsRow, standIns := [], harness := (true, "bb133f76c30fb3626d0039d038f10b07264f376b2d6cd1ce6baf24f0305239a8"), looks := true }, kinds := [], alts := [], laidByText := true, laidKinds := [.data, .data, .data, .data, .sentinel, .sentinel, .pinned], laidTests := true, laidLooks := .later }
def ChaosStormsCardSaid : Prop := Claim7.holds Tryd.pinned (.plain (OpenSpec.ofChange chaosStormsSpec)) chaosStormsCard

/-- THE TIED CARD OF 'eddylaw40.ChaosKeeps'. -/
def chaosKeepsCard : Claim7 := { stood := { row := chaosKeepsRow, standIns := [], harness := (true, "bb133f76c30fb3626d0039d038f10b07264f376b2d6cd1ce6baf24f0305239a8"), looks := true }, kinds := [], alts := [], laidByText := true, laidKinds := [.data, .data, .data, .data, .sentinel, .sentinel, .pinned], laidTests := true, laidLooks := .later }
def ChaosKeepsCardSaid : Prop := Claim7.holds Tryd.pinned (.plain (OpenSpec.ofChange chaosKeepsSpec)) chaosKeepsCard

/-- THE SECOND FORM's CARD OF 'eddylaw40.ChaosFits'. -/
def chaosFitsUptoCard : Claim7 := { stood := { row := chaosFitsUptoRow, standIns := [], harness := (true, "bb133f76c30fb3626d0039d038f10b07264f376b2d6cd1ce6baf24f0305239a8"), looks := true }, kinds := [], alts := [], laidByText := true, laidKinds := [.data, .data, .data, .data, .sentinel, .sentinel, .pinned], laidTests := true, laidLooks := .later }
def ChaosFitsUptoCardSaid : Prop := Claim7.holds Tryd.pinned (.plain (OpenSpec.upto chaosFitsSpec)) chaosFitsUptoCard

/-- THE SECOND FORM's CARD OF 'eddylaw40.ChaosLays'. -/
def chaosLaysUptoCard : Claim7 := { stood := { row := chaosLaysUptoRow, standIns := [], harness := (true, "bb133f76c30fb3626d0039d038f10b07264f376b2d6cd1ce6baf24f0305239a8"), looks := true }, kinds := [], alts := [], laidByText := true, laidKinds := [.data, .data, .data, .data, .sentinel, .sentinel, .pinned], laidTests := true, laidLooks := .later }
def ChaosLaysUptoCardSaid : Prop := Claim7.holds Tryd.pinned (.plain (OpenSpec.upto chaosLaysSpec)) chaosLaysUptoCard

/-- THE SECOND FORM's CARD OF 'eddylaw40.ChaosTexts'. -/
def chaosTextsUptoCard : Claim7 := { stood := { row := chaosTextsUptoRow, standIns := [], harness := (true, "bb133f76c30fb3626d0039d038f10b07264f376b2d6cd1ce6baf24f0305239a8"), looks := true }, kinds := [], alts := [], laidByText := true, laidKinds := [.data, .data, .data, .data, .sentinel, .sentinel, .pinned], laidTests := true, laidLooks := .later }
def ChaosTextsUptoCardSaid : Prop := Claim7.holds Tryd.pinned (.plain (OpenSpec.upto chaosTextsSpec)) chaosTextsUptoCard

/-- THE SECOND FORM's CARD OF 'eddylaw40.ChaosStorms'. -/
def chaosStormsUptoCard : Claim7 := { stood := { row := chaosStormsUptoRow, standIns := [], harness := (true, "bb133f76c30fb3626d0039d038f10b07264f376b2d6cd1ce6baf24f0305239a8"), looks := true }, kinds := [], alts := [], laidByText := true, laidKinds := [.data, .data, .data, .data, .sentinel, .sentinel, .pinned], laidTests := true, laidLooks := .later }
def ChaosStormsUptoCardSaid : Prop := Claim7.holds Tryd.pinned (.plain (OpenSpec.upto chaosStormsSpec)) chaosStormsUptoCard

/-- THE SECOND FORM's CARD OF 'eddylaw40.ChaosKeeps'. -/
def chaosKeepsUptoCard : Claim7 := { stood := { row := chaosKeepsUptoRow, standIns := [], harness := (true, "bb133f76c30fb3626d0039d038f10b07264f376b2d6cd1ce6baf24f0305239a8"), looks := true }, kinds := [], alts := [], laidByText := true, laidKinds := [.data, .data, .data, .data, .sentinel, .sentinel, .pinned], laidTests := true, laidLooks := .later }
def ChaosKeepsUptoCardSaid : Prop := Claim7.holds Tryd.pinned (.plain (OpenSpec.upto chaosKeepsSpec)) chaosKeepsUptoCard
end Rows
end Go.Proofs.YtgaghkchdiepoaaDoor
