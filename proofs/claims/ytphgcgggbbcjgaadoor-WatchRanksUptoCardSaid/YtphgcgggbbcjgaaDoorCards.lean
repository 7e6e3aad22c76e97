/-
  DERIVED. GIVEN WITH THE SEED: THE CARDS: each row of YtphgcgggbbcjgaaDoorRows.lean that lists a variable, with what it lists TIED to the program's text (the seventh form; the later family's looks); each row that meets fmt, with fmt's text TOLD by the authors' own Lean function (tested against real Go, not proved from fmt's source: count such statements apart). THE CARD IS WHAT COUNTS. Prove the row's statement (the work); the ties are given (YtphgcgggbbcjgaaDoorTie.lean); close each card by the builder's one call (the guide's Derived/Test/ToyasCard.lean, 'card_holds'). Laid BY PROGRAM, IN A SANDBOX (cutbox-door.mjs). By AI agents, Wed Nov 11 2026. No macro, syntax, notation, axiom, sorry.
-/
import Derived.Test.YtphgcgggbbcjgaaDoorRows
import GoSem.ClaimSeven
namespace Go.Proofs.YtphgcgggbbcjgaaDoor
namespace Rows

/-- THE TIED CARD OF 'eddylaw32.WatchTakes'. -/
def watchTakesCard : Claim7 := { stood := { row := watchTakesRow, standIns := [], harness := (true, "d520bb7f33307d5006239e1d55f5c05986672712f3ce1ebf637f9f81487285f8"), looks := true }, kinds := [], alts := [], laidByText := true, laidKinds := [.data, .data, .data, .data, .sentinel, .sentinel, .pinned], laidTests := true, laidLooks := .later }
def WatchTakesCardSaid : Prop := Claim7.holds Tryd.pinned (.plain (OpenSpec.ofChange watchTakesSpec)) watchTakesCard

/-- THE TIED CARD OF 'eddylaw32.WatchPlays'. -/
def watchPlaysCard : Claim7 := { stood := { row := watchPlaysRow, standIns := [], harness := (true, "d520bb7f33307d5006239e1d55f5c05986672712f3ce1ebf637f9f81487285f8"), looks := true }, kinds := [], alts := [], laidByText := true, laidKinds := [.data, .data, .data, .data, .sentinel, .sentinel, .pinned], laidTests := true, laidLooks := .later }
def WatchPlaysCardSaid : Prop := Claim7.holds Tryd.pinned (.plain (OpenSpec.ofChange watchPlaysSpec)) watchPlaysCard

/-- THE TIED CARD OF 'eddylaw32.WatchTexts'. -/
def watchTextsCard : Claim7 := { stood := { row := watchTextsRow, standIns := [], harness := (true, "d520bb7f33307d5006239e1d55f5c05986672712f3ce1ebf637f9f81487285f8"), looks := true }, kinds := [], alts := [], laidByText := true, laidKinds := [.data, .data, .data, .data, .sentinel, .sentinel, .pinned], laidTests := true, laidLooks := .later }
def WatchTextsCardSaid : Prop := Claim7.holds Tryd.pinned (.plain (OpenSpec.ofChange watchTextsSpec)) watchTextsCard

/-- THE TIED CARD OF 'eddylaw32.WatchTurns'. -/
def watchTurnsCard : Claim7 := { stood := { row := watchTurnsRow, standIns := [], harness := (true, "d520bb7f33307d5006239e1d55f5c05986672712f3ce1ebf637f9f81487285f8"), looks := true }, kinds := [], alts := [], laidByText := true, laidKinds := [.data, .data, .data, .data, .sentinel, .sentinel, .pinned], laidTests := true, laidLooks := .later }
def WatchTurnsCardSaid : Prop := Claim7.holds Tryd.pinned (.plain (OpenSpec.ofChange watchTurnsSpec)) watchTurnsCard

/-- THE TIED CARD OF 'eddylaw32.WatchMirrors'. -/
def watchMirrorsCard : Claim7 := { stood := { row := watchMirrorsRow, standIns := [], harness := (true, "d520bb7f33307d5006239e1d55f5c05986672712f3ce1ebf637f9f81487285f8"), looks := true }, kinds := [], alts := [], laidByText := true, laidKinds := [.data, .data, .data, .data, .sentinel, .sentinel, .pinned], laidTests := true, laidLooks := .later }
def WatchMirrorsCardSaid : Prop := Claim7.holds Tryd.pinned (.plain (OpenSpec.ofChange watchMirrorsSpec)) watchMirrorsCard

/-- THE TIED CARD OF 'eddylaw32.WatchFits'. -/
def watchFitsCard : Claim7 := { stood := { row := watchFitsRow, standIns := [], harness := (true, "d520bb7f33307d5006239e1d55f5c05986672712f3ce1ebf637f9f81487285f8"), looks := true }, kinds := [], alts := [], laidByText := true, laidKinds := [.data, .data, .data, .data, .sentinel, .sentinel, .pinned], laidTests := true, laidLooks := .later }
def WatchFitsCardSaid : Prop := Claim7.holds Tryd.pinned (.plain (OpenSpec.ofChange watchFitsSpec)) watchFitsCard

/-- THE TIED CARD OF 'eddylaw32.WatchRanks'. -/
def watchRanksCard : Claim7 := { stood := { row := watchRanksRow, standIns := [], harness := (true, "d520bb7f33307d5006239e1d55f5c05986672712f3ce1ebf637f9f81487285f8"), looks := true }, kinds := [], alts := [], laidByText := true, laidKinds := [.data, .data, .data, .data, .sentinel, .sentinel, .pinned], laidTests := true, laidLooks := .later }
def WatchRanksCardSaid : Prop := Claim7.holds Tryd.pinned (.plain (OpenSpec.ofChange watchRanksSpec)) watchRanksCard

/-- THE SECOND FORM's CARD OF 'eddylaw32.WatchTakes'. -/
def watchTakesUptoCard : Claim7 := { stood := { row := watchTakesUptoRow, standIns := [], harness := (true, "d520bb7f33307d5006239e1d55f5c05986672712f3ce1ebf637f9f81487285f8"), looks := true }, kinds := [], alts := [], laidByText := true, laidKinds := [.data, .data, .data, .data, .sentinel, .sentinel, .pinned], laidTests := true, laidLooks := .later }
def WatchTakesUptoCardSaid : Prop := Claim7.holds Tryd.pinned (.plain (OpenSpec.upto watchTakesSpec)) watchTakesUptoCard

/-- THE SECOND FORM's CARD OF 'eddylaw32.WatchPlays'. -/
def watchPlaysUptoCard : Claim7 := { stood := { row := watchPlaysUptoRow, standIns := [], harness := (true, "d520bb7f33307d5006239e1d55f5c05986672712f3ce1ebf637f9f81487285f8"), looks := true }, kinds := [], alts := [], laidByText := true, laidKinds := [.data, .data, .data, .data, .sentinel, .sentinel, .pinned], laidTests := true, laidLooks := .later }
def WatchPlaysUptoCardSaid : Prop := Claim7.holds Tryd.pinned (.plain (OpenSpec.upto watchPlaysSpec)) watchPlaysUptoCard

/-- THE SECOND FORM's CARD OF 'eddylaw32.WatchTexts'. -/
def watchTextsUptoCard : Claim7 := { stood := { row := watchTextsUptoRow, standIns := [], harness := (true, "d520bb7f33307d5006239e1d55f5c05986672712f3ce1ebf637f9f81487285f8"), looks := true }, kinds := [], alts := [], laidByText := true, laidKinds := [.data, .data, .data, .data, .sentinel, .sentinel, .pinned], laidTests := true, laidLooks := .later }
def WatchTextsUptoCardSaid : Prop := Claim7.holds Tryd.pinned (.plain (OpenSpec.upto watchTextsSpec)) watchTextsUptoCard

/-- THE SECOND FORM's CARD OF 'eddylaw32.WatchTurns'. -/
def watchTurnsUptoCard : Claim7 := { stood := { row := watchTurnsUptoRow, standIns := [], harness := (true, "d520bb7f33307d5006239e1d55f5c05986672712f3ce1ebf637f9f81487285f8"), looks := true }, kinds := [], alts := [], laidByText := true, laidKinds := [.data, .data, .data, .data, .sentinel, .sentinel, .pinned], laidTests := true, laidLooks := .later }
def WatchTurnsUptoCardSaid : Prop := Claim7.holds Tryd.pinned (.plain (OpenSpec.upto watchTurnsSpec)) watchTurnsUptoCard

/-- THE SECOND FORM's CARD OF 'eddylaw32.WatchMirrors'. -/
def watchMirrorsUptoCard : Claim7 := { stood := { row := watchMirrorsUptoRow, standIns := [], harness := (true, "d520bb7f33307d5006239e1d55f5c05986672712f3ce1ebf637f9f81487285f8"), looks := true }, kinds := [], alts := [], laidByText := true, laidKinds := [.data, .data, .data, .data, .sentinel, .sentinel, .pinned], laidTests := true, laidLooks := .later }
def WatchMirrorsUptoCardSaid : Prop := Claim7.holds Tryd.pinned (.plain (OpenSpec.upto watchMirrorsSpec)) watchMirrorsUptoCard

/-- THE SECOND FORM's CARD OF 'eddylaw32.WatchFits'. -/
def watchFitsUptoCard : Claim7 := { stood := { row := watchFitsUptoRow, standIns := [], harness := (true, "d520bb7f33307d5006239e1d55f5c05986672712f3ce1ebf637f9f81487285f8"), looks := true }, kinds := [], alts := [], laidByText := true, laidKinds := [.data, .data, .data, .data, .sentinel, .sentinel, .pinned], laidTests := true, laidLooks := .later }
def WatchFitsUptoCardSaid : Prop := Claim7.holds Tryd.pinned (.plain (OpenSpec.upto watchFitsSpec)) watchFitsUptoCard

/-- THE SECOND FORM's CARD OF 'eddylaw32.WatchRanks'. -/
def watchRanksUptoCard : Claim7 := { stood := { row := watchRanksUptoRow, standIns := [], harness := (true, "d520bb7f33307d5006239e1d55f5c05986672712f3ce1ebf637f9f81487285f8"), looks := true }, kinds := [], alts := [], laidByText := true, laidKinds := [.data, .data, .data, .data, .sentinel, .sentinel, .pinned], laidTests := true, laidLooks := .later }
def WatchRanksUptoCardSaid : Prop := Claim7.holds Tryd.pinned (.plain (OpenSpec.upto watchRanksSpec)) watchRanksUptoCard
end Rows
end Go.Proofs.YtphgcgggbbcjgaaDoor
