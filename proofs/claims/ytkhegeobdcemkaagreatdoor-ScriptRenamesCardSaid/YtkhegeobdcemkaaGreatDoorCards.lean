/-
  DERIVED. GIVEN WITH THE SEED: THE CARDS: each row of YtkhegeobdcemkaaGreatDoorRows.lean that lists a variable, with what it lists TIED to the program's text (the seventh form; the later family's looks); each row that meets fmt, with fmt's text TOLD by the authors' own Lean function (tested against real Go, not proved from fmt's source: count such statements apart). THE CARD IS WHAT COUNTS. Prove the row's statement (the work); the ties are given (YtkhegeobdcemkaaGreatDoorTie.lean); close each card by the builder's one call (the guide's Derived/Test/ToyasCard.lean, 'card_holds'). Laid BY PROGRAM, IN A SANDBOX (cutbox-door.mjs). By AI agents, Wed Nov 11 2026. No macro, syntax, notation, axiom, sorry.
-/
import Derived.Test.YtkhegeobdcemkaaGreatDoorRows
import GoSem.ClaimSeven
namespace Go.Proofs.YtkhegeobdcemkaaGreatDoor
namespace Rows

/-- THE TIED CARD OF 'backlaw1.ScriptCasts'. -/
def scriptCastsCard : Claim7 := { stood := { row := scriptCastsRow, standIns := [], harness := (true, "bcb92f3ed0e44fd22670b5b61b9c828ca14c428831dc0c2f4a5ea3902ca592a2"), looks := true }, kinds := [], alts := [], laidByText := true, laidKinds := [.data, .data, .data, .data, .listed, .data, .pinned], laidTests := true, laidLooks := .later }
def ScriptCastsCardSaid : Prop := Claim7.holds Tryz.pinned (.plain (OpenSpec.ofChange scriptCastsSpec)) scriptCastsCard

/-- THE TIED CARD OF 'backlaw1.ScriptRenames'. -/
def scriptRenamesCard : Claim7 := { stood := { row := scriptRenamesRow, standIns := [], harness := (true, "bcb92f3ed0e44fd22670b5b61b9c828ca14c428831dc0c2f4a5ea3902ca592a2"), looks := true }, kinds := [], alts := [], laidByText := true, laidKinds := [.data, .data, .data, .data, .listed, .data, .pinned], laidTests := true, laidLooks := .later }
def ScriptRenamesCardSaid : Prop := Claim7.holds Tryz.pinned (.plain (OpenSpec.ofChange scriptRenamesSpec)) scriptRenamesCard

/-- THE TIED CARD OF 'backlaw1.ScriptSides'. -/
def scriptSidesCard : Claim7 := { stood := { row := scriptSidesRow, standIns := [], harness := (true, "bcb92f3ed0e44fd22670b5b61b9c828ca14c428831dc0c2f4a5ea3902ca592a2"), looks := true }, kinds := [], alts := [], laidByText := true, laidKinds := [.data, .data, .data, .data, .listed, .data, .pinned], laidTests := true, laidLooks := .later }
def ScriptSidesCardSaid : Prop := Claim7.holds Tryz.pinned (.plain (OpenSpec.ofChange scriptSidesSpec)) scriptSidesCard

/-- THE TIED CARD OF 'backlaw1.ScriptLines'. -/
def scriptLinesCard : Claim7 := { stood := { row := scriptLinesRow, standIns := [], harness := (true, "bcb92f3ed0e44fd22670b5b61b9c828ca14c428831dc0c2f4a5ea3902ca592a2"), looks := true }, kinds := [], alts := [], laidByText := true, laidKinds := [.data, .data, .data, .data, .listed, .data, .pinned], laidTests := true, laidLooks := .later }
def ScriptLinesCardSaid : Prop := Claim7.holds Tryz.pinned (.plain (OpenSpec.ofChange scriptLinesSpec)) scriptLinesCard

/-- THE TIED CARD OF 'backlaw1.ScriptReads'. -/
def scriptReadsCard : Claim7 := { stood := { row := scriptReadsRow, standIns := [], harness := (true, "bcb92f3ed0e44fd22670b5b61b9c828ca14c428831dc0c2f4a5ea3902ca592a2"), looks := true }, kinds := [], alts := [], laidByText := true, laidKinds := [.data, .data, .data, .data, .sentinel, .sentinel, .listed, .data, .pinned], laidTests := true, laidLooks := .later }
def ScriptReadsCardSaid : Prop := Claim7.holds Tryz.pinned (.plain (OpenSpec.ofChange scriptReadsSpec)) scriptReadsCard

/-- THE SECOND FORM's CARD OF 'backlaw1.ScriptCasts'. -/
def scriptCastsUptoCard : Claim7 := { stood := { row := scriptCastsUptoRow, standIns := [], harness := (true, "bcb92f3ed0e44fd22670b5b61b9c828ca14c428831dc0c2f4a5ea3902ca592a2"), looks := true }, kinds := [], alts := [], laidByText := true, laidKinds := [.data, .data, .data, .data, .listed, .data, .pinned], laidTests := true, laidLooks := .later }
def ScriptCastsUptoCardSaid : Prop := Claim7.holds Tryz.pinned (.plain (OpenSpec.upto scriptCastsSpec)) scriptCastsUptoCard

/-- THE SECOND FORM's CARD OF 'backlaw1.ScriptRenames'. -/
def scriptRenamesUptoCard : Claim7 := { stood := { row := scriptRenamesUptoRow, standIns := [], harness := (true, "bcb92f3ed0e44fd22670b5b61b9c828ca14c428831dc0c2f4a5ea3902ca592a2"), looks := true }, kinds := [], alts := [], laidByText := true, laidKinds := [.data, .data, .data, .data, .listed, .data, .pinned], laidTests := true, laidLooks := .later }
def ScriptRenamesUptoCardSaid : Prop := Claim7.holds Tryz.pinned (.plain (OpenSpec.upto scriptRenamesSpec)) scriptRenamesUptoCard

/-- THE SECOND FORM's CARD OF 'backlaw1.ScriptSides'. -/
def scriptSidesUptoCard : Claim7 := { stood := { row := scriptSidesUptoRow, standIns := [], harness := (true, "bcb92f3ed0e44fd22670b5b61b9c828ca14c428831dc0c2f4a5ea3902ca592a2"), looks := true }, kinds := [], alts := [], laidByText := true, laidKinds := [.data, .data, .data, .data, .listed, .data, .pinned], laidTests := true, laidLooks := .later }
def ScriptSidesUptoCardSaid : Prop := Claim7.holds Tryz.pinned (.plain (OpenSpec.upto scriptSidesSpec)) scriptSidesUptoCard

/-- THE SECOND FORM's CARD OF 'backlaw1.ScriptLines'. -/
def scriptLinesUptoCard : Claim7 := { stood := { row := scriptLinesUptoRow, standIns := [], harness := (true, "bcb92f3ed0e44fd22670b5b61b9c828ca14c428831dc0c2f4a5ea3902ca592a2"), looks := true }, kinds := [], alts := [], laidByText := true, laidKinds := [.data, .data, .data, .data, .listed, .data, .pinned], laidTests := true, laidLooks := .later }
def ScriptLinesUptoCardSaid : Prop := Claim7.holds Tryz.pinned (.plain (OpenSpec.upto scriptLinesSpec)) scriptLinesUptoCard

/-- THE SECOND FORM's CARD OF 'backlaw1.ScriptReads'. -/
def scriptReadsUptoCard : Claim7 := { stood := { row := scriptReadsUptoRow, standIns := [], harness := (true, "bcb92f3ed0e44fd22670b5b61b9c828ca14c428831dc0c2f4a5ea3902ca592a2"), looks := true }, kinds := [], alts := [], laidByText := true, laidKinds := [.data, .data, .data, .data, .sentinel, .sentinel, .listed, .data, .pinned], laidTests := true, laidLooks := .later }
def ScriptReadsUptoCardSaid : Prop := Claim7.holds Tryz.pinned (.plain (OpenSpec.upto scriptReadsSpec)) scriptReadsUptoCard
end Rows
end Go.Proofs.YtkhegeobdcemkaaGreatDoor
