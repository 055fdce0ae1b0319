/-
  DERIVED. GIVEN WITH THE SEED: THE CARDS: each row of YtnmnjggijammhaaGreatDoorRows.lean that lists a variable, with what it lists TIED to the program's text (the seventh form; the later family's looks); each row that meets fmt, with fmt's text TOLD by the authors' own Lean function (tested against real Go, not proved from fmt's source: count such statements apart). THE CARD IS WHAT COUNTS. Prove the row's statement (the work); the ties are given (YtnmnjggijammhaaGreatDoorTie.lean); close each card by the builder's one call (the guide's Derived/Test/ToyasCard.lean, 'card_holds'). Laid BY PROGRAM, IN A SANDBOX (cutbox-door.mjs). By AI agents, Wed Nov 11 2026. No macro, syntax, notation, axiom, sorry.
-/
import Derived.Test.YtnmnjggijammhaaGreatDoorRows
import GoSem.ClaimSeven
namespace Go.Proofs.YtnmnjggijammhaaGreatDoor
namespace Rows

/-- THE TIED CARD OF 'backlaw1.ScriptHeadings'. -/
def scriptHeadingsCard : Claim7 := { stood := { row := scriptHeadingsRow, standIns := [], harness := (true, "0ac1c9efe33fbd2c87daeed0c02f085af3f7fa3888c0bde087029ab01edc1407"), looks := true }, kinds := [], alts := [], laidByText := true, laidKinds := [.data, .listed, .data, .pinned], laidTests := true, laidLooks := .later }
def ScriptHeadingsCardSaid : Prop := Claim7.holds Tryz.pinned (.plain (OpenSpec.ofChange scriptHeadingsSpec)) scriptHeadingsCard

/-- THE TIED CARD OF 'backlaw1.TakeTexts'. -/
def takeTextsCard : Claim7 := { stood := { row := takeTextsRow, standIns := [], harness := (true, "0ac1c9efe33fbd2c87daeed0c02f085af3f7fa3888c0bde087029ab01edc1407"), looks := true }, kinds := [], alts := [], laidByText := true, laidKinds := [.data, .data, .data, .data, .sentinel, .sentinel, .pinned], laidTests := true, laidLooks := .later }
def TakeTextsCardSaid : Prop := Claim7.holds Tryz.pinned (.plain (OpenSpec.ofChange takeTextsSpec)) takeTextsCard

/-- THE TIED CARD OF 'backlaw1.ScriptChecks'. -/
def scriptChecksCard : Claim7 := { stood := { row := scriptChecksRow, standIns := [], harness := (true, "0ac1c9efe33fbd2c87daeed0c02f085af3f7fa3888c0bde087029ab01edc1407"), looks := true }, kinds := [], alts := [], laidByText := true, laidKinds := [.data, .data, .data, .data, .listed, .data, .pinned], laidTests := true, laidLooks := .later }
def ScriptChecksCardSaid : Prop := Claim7.holds Tryz.pinned (.plain (OpenSpec.ofChange scriptChecksSpec)) scriptChecksCard

/-- THE TIED CARD OF 'backlaw1.ScriptTexts'. -/
def scriptTextsCard : Claim7 := { stood := { row := scriptTextsRow, standIns := [], harness := (true, "0ac1c9efe33fbd2c87daeed0c02f085af3f7fa3888c0bde087029ab01edc1407"), looks := true }, kinds := [], alts := [], laidByText := true, laidKinds := [.data, .data, .data, .data, .listed, .data, .pinned], laidTests := true, laidLooks := .later }
def ScriptTextsCardSaid : Prop := Claim7.holds Tryz.pinned (.plain (OpenSpec.ofChange scriptTextsSpec)) scriptTextsCard

/-- THE TIED CARD OF 'backlaw1.ScriptCuts'. -/
def scriptCutsCard : Claim7 := { stood := { row := scriptCutsRow, standIns := [], harness := (true, "0ac1c9efe33fbd2c87daeed0c02f085af3f7fa3888c0bde087029ab01edc1407"), looks := true }, kinds := [], alts := [], laidByText := true, laidKinds := [.data, .data, .data, .data, .listed, .data, .pinned], laidTests := true, laidLooks := .later }
def ScriptCutsCardSaid : Prop := Claim7.holds Tryz.pinned (.plain (OpenSpec.ofChange scriptCutsSpec)) scriptCutsCard

/-- THE SECOND FORM's CARD OF 'backlaw1.ScriptHeadings'. -/
def scriptHeadingsUptoCard : Claim7 := { stood := { row := scriptHeadingsUptoRow, standIns := [], harness := (true, "0ac1c9efe33fbd2c87daeed0c02f085af3f7fa3888c0bde087029ab01edc1407"), looks := true }, kinds := [], alts := [], laidByText := true, laidKinds := [.data, .listed, .data, .pinned], laidTests := true, laidLooks := .later }
def ScriptHeadingsUptoCardSaid : Prop := Claim7.holds Tryz.pinned (.plain (OpenSpec.upto scriptHeadingsSpec)) scriptHeadingsUptoCard

/-- THE SECOND FORM's CARD OF 'backlaw1.TakeTexts'. -/
def takeTextsUptoCard : Claim7 := { stood := { row := takeTextsUptoRow, standIns := [], harness := (true, "0ac1c9efe33fbd2c87daeed0c02f085af3f7fa3888c0bde087029ab01edc1407"), looks := true }, kinds := [], alts := [], laidByText := true, laidKinds := [.data, .data, .data, .data, .sentinel, .sentinel, .pinned], laidTests := true, laidLooks := .later }
def TakeTextsUptoCardSaid : Prop := Claim7.holds Tryz.pinned (.plain (OpenSpec.upto takeTextsSpec)) takeTextsUptoCard

/-- THE SECOND FORM's CARD OF 'backlaw1.ScriptChecks'. -/
def scriptChecksUptoCard : Claim7 := { stood := { row := scriptChecksUptoRow, standIns := [], harness := (true, "0ac1c9efe33fbd2c87daeed0c02f085af3f7fa3888c0bde087029ab01edc1407"), looks := true }, kinds := [], alts := [], laidByText := true, laidKinds := [.data, .data, .data, .data, .listed, .data, .pinned], laidTests := true, laidLooks := .later }
def ScriptChecksUptoCardSaid : Prop := Claim7.holds Tryz.pinned (.plain (OpenSpec.upto scriptChecksSpec)) scriptChecksUptoCard

/-- THE SECOND FORM's CARD OF 'backlaw1.ScriptTexts'. -/
def scriptTextsUptoCard : Claim7 := { stood := { row := scriptTextsUptoRow, standIns := [], harness := (true, "0ac1c9efe33fbd2c87daeed0c02f085af3f7fa3888c0bde087029ab01edc1407"), looks := true }, kinds := [], alts := [], laidByText := true, laidKinds := [.data, .data, .data, .data, .listed, .data, .pinned], laidTests := true, laidLooks := .later }
def ScriptTextsUptoCardSaid : Prop := Claim7.holds Tryz.pinned (.plain (OpenSpec.upto scriptTextsSpec)) scriptTextsUptoCard

/-- THE SECOND FORM's CARD OF 'backlaw1.ScriptCuts'. -/
def scriptCutsUptoCard : Claim7 := { stood := { row := scriptCutsUptoRow, standIns := [], harness := (true, "0ac1c9efe33fbd2c87daeed0c02f085af3f7fa3888c0bde087029ab01edc1407"), looks := true }, kinds := [], alts := [], laidByText := true, laidKinds := [.data, .data, .data, .data, .listed, .data, .pinned], laidTests := true, laidLooks := .later }
def ScriptCutsUptoCardSaid : Prop := Claim7.holds Tryz.pinned (.plain (OpenSpec.upto scriptCutsSpec)) scriptCutsUptoCard
end Rows
end Go.Proofs.YtnmnjggijammhaaGreatDoor
