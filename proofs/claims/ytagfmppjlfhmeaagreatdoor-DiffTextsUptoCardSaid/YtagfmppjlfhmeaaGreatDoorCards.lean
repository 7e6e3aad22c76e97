/-
  DERIVED. GIVEN WITH THE SEED: THE CARDS: each row of YtagfmppjlfhmeaaGreatDoorRows.lean that lists a variable, with what it lists TIED to the program's text (the seventh form; the later family's looks); each row that meets fmt, with fmt's text TOLD by the authors' own Lean function (tested against real Go, not proved from fmt's source: count such statements apart). THE CARD IS WHAT COUNTS. Prove the row's statement (the work); the ties are given (YtagfmppjlfhmeaaGreatDoorTie.lean); close each card by the builder's one call (the guide's Derived/Test/ToyasCard.lean, 'card_holds'). Laid BY PROGRAM, IN A SANDBOX (cutbox-door.mjs). By AI agents, Wed Nov 11 2026. No macro, syntax, notation, axiom, sorry.
-/
import Derived.Test.YtagfmppjlfhmeaaGreatDoorRows
import GoSem.ClaimSeven
namespace Go.Proofs.YtagfmppjlfhmeaaGreatDoor
namespace Rows

/-- THE TIED CARD OF 'eddylaw38.DiffApplies'. -/
def diffAppliesCard : Claim7 := { stood := { row := diffAppliesRow, standIns := [], harness := (true, "00b3f99eb5f512a9c6c93805dff37d75f8a13637220670564f1094d0139a4147"), looks := true }, kinds := [], alts := [], laidByText := true, laidKinds := [.data, .data, .data, .data, .data, .pinned], laidTests := true, laidLooks := .later }
def DiffAppliesCardSaid : Prop := Claim7.holds Tryz.pinned (.plain (OpenSpec.ofChange diffAppliesSpec)) diffAppliesCard

/-- THE TIED CARD OF 'eddylaw38.DiffTexts'. -/
def diffTextsCard : Claim7 := { stood := { row := diffTextsRow, standIns := [], harness := (true, "00b3f99eb5f512a9c6c93805dff37d75f8a13637220670564f1094d0139a4147"), looks := true }, kinds := [], alts := [], laidByText := true, laidKinds := [.data, .data, .data, .data, .data, .pinned], laidTests := true, laidLooks := .later }
def DiffTextsCardSaid : Prop := Claim7.holds Tryz.pinned (.plain (OpenSpec.ofChange diffTextsSpec)) diffTextsCard

/-- THE TIED CARD OF 'eddylaw38.DiffChanges'. -/
def diffChangesCard : Claim7 := { stood := { row := diffChangesRow, standIns := [], harness := (true, "00b3f99eb5f512a9c6c93805dff37d75f8a13637220670564f1094d0139a4147"), looks := true }, kinds := [], alts := [], laidByText := true, laidKinds := [.data, .data, .data, .data, .data, .pinned], laidTests := true, laidLooks := .later }
def DiffChangesCardSaid : Prop := Claim7.holds Tryz.pinned (.plain (OpenSpec.ofChange diffChangesSpec)) diffChangesCard

/-- THE TIED CARD OF 'eddylaw38.DiffJoins'. -/
def diffJoinsCard : Claim7 := { stood := { row := diffJoinsRow, standIns := [], harness := (true, "00b3f99eb5f512a9c6c93805dff37d75f8a13637220670564f1094d0139a4147"), looks := true }, kinds := [], alts := [], laidByText := true, laidKinds := [.data, .data, .data, .data, .data, .pinned], laidTests := true, laidLooks := .later }
def DiffJoinsCardSaid : Prop := Claim7.holds Tryz.pinned (.plain (OpenSpec.ofChange diffJoinsSpec)) diffJoinsCard

/-- THE SECOND FORM's CARD OF 'eddylaw38.DiffApplies'. -/
def diffAppliesUptoCard : Claim7 := { stood := { row := diffAppliesUptoRow, standIns := [], harness := (true, "00b3f99eb5f512a9c6c93805dff37d75f8a13637220670564f1094d0139a4147"), looks := true }, kinds := [], alts := [], laidByText := true, laidKinds := [.data, .data, .data, .data, .data, .pinned], laidTests := true, laidLooks := .later }
def DiffAppliesUptoCardSaid : Prop := Claim7.holds Tryz.pinned (.plain (OpenSpec.upto diffAppliesSpec)) diffAppliesUptoCard

/-- THE SECOND FORM's CARD OF 'eddylaw38.DiffTexts'. -/
def diffTextsUptoCard : Claim7 := { stood := { row := diffTextsUptoRow, standIns := [], harness := (true, "00b3f99eb5f512a9c6c93805dff37d75f8a13637220670564f1094d0139a4147"), looks := true }, kinds := [], alts := [], laidByText := true, laidKinds := [.data, .data, .data, .data, .data, .pinned], laidTests := true, laidLooks := .later }
def DiffTextsUptoCardSaid : Prop := Claim7.holds Tryz.pinned (.plain (OpenSpec.upto diffTextsSpec)) diffTextsUptoCard

/-- THE SECOND FORM's CARD OF 'eddylaw38.DiffChanges'. -/
def diffChangesUptoCard : Claim7 := { stood := { row := diffChangesUptoRow, standIns := [], harness := (true, "00b3f99eb5f512a9c6c93805dff37d75f8a13637220670564f1094d0139a4147"), looks := true }, kinds := [], alts := [], laidByText := true, laidKinds := [.data, .data, .data, .data, .data, .pinned], laidTests := true, laidLooks := .later }
def DiffChangesUptoCardSaid : Prop := Claim7.holds Tryz.pinned (.plain (OpenSpec.upto diffChangesSpec)) diffChangesUptoCard

/-- THE SECOND FORM's CARD OF 'eddylaw38.DiffJoins'. -/
def diffJoinsUptoCard : Claim7 := { stood := { row := diffJoinsUptoRow, standIns := [], harness := (true, "00b3f99eb5f512a9c6c93805dff37d75f8a13637220670564f1094d0139a4147"), looks := true }, kinds := [], alts := [], laidByText := true, laidKinds := [.data, .data, .data, .data, .data, .pinned], laidTests := true, laidLooks := .later }
def DiffJoinsUptoCardSaid : Prop := Claim7.holds Tryz.pinned (.plain (OpenSpec.upto diffJoinsSpec)) diffJoinsUptoCard
end Rows
end Go.Proofs.YtagfmppjlfhmeaaGreatDoor
