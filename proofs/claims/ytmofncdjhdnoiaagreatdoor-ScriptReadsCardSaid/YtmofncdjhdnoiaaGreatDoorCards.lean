/-
  DERIVED. GIVEN WITH THE SEED: THE CARDS: each row of YtmofncdjhdnoiaaGreatDoorRows.lean that lists a variable, with what it lists TIED to the program's text (the seventh form; the later family's looks); each row that meets fmt, with fmt's text TOLD by the authors' own Lean function (tested against real Go, not proved from fmt's source: count such statements apart). THE CARD IS WHAT COUNTS. Prove the row's statement (the work); the ties are given (YtmofncdjhdnoiaaGreatDoorTie.lean); close each card by the builder's one call (the guide's Derived/Test/ToyasCard.lean, 'card_holds'). Laid BY PROGRAM, IN A SANDBOX (cutbox-door.mjs). By AI agents, Wed Nov 11 2026. No macro, syntax, notation, axiom, sorry.
-/
import Derived.Test.YtmofncdjhdnoiaaGreatDoorRows
import GoSem.ClaimSeven
namespace Go.Proofs.YtmofncdjhdnoiaaGreatDoor
namespace Rows

/-- THE TIED CARD OF 'backlaw1.ScriptPages'. -/
def scriptPagesCard : Claim7 := { stood := { row := scriptPagesRow, standIns := [], harness := (true, "1845f1a4fe549ba4b03e96acfe4ec9265eddeb05d6543af20ce3168e3253dcd1"), looks := true }, kinds := [], alts := [], laidByText := true, laidKinds := [.data, .data, .data, .data, .listed, .data, .pinned], laidTests := true, laidLooks := .later }
def ScriptPagesCardSaid : Prop := Claim7.holds Tryz.pinned (.plain (OpenSpec.ofChange scriptPagesSpec)) scriptPagesCard

/-- THE TIED CARD OF 'backlaw1.ScriptReads'. -/
def scriptReadsCard : Claim7 := { stood := { row := scriptReadsRow, standIns := [], harness := (true, "1845f1a4fe549ba4b03e96acfe4ec9265eddeb05d6543af20ce3168e3253dcd1"), looks := true }, kinds := [], alts := [], laidByText := true, laidKinds := [.data, .data, .data, .data, .sentinel, .sentinel, .listed, .data, .pinned], laidTests := true, laidLooks := .later }
def ScriptReadsCardSaid : Prop := Claim7.holds Tryz.pinned (.plain (OpenSpec.ofChange scriptReadsSpec)) scriptReadsCard

/-- THE SECOND FORM's CARD OF 'backlaw1.ScriptPages'. -/
def scriptPagesUptoCard : Claim7 := { stood := { row := scriptPagesUptoRow, standIns := [], harness := (true, "1845f1a4fe549ba4b03e96acfe4ec9265eddeb05d6543af20ce3168e3253dcd1"), looks := true }, kinds := [], alts := [], laidByText := true, laidKinds := [.data, .data, .data, .data, .listed, .data, .pinned], laidTests := true, laidLooks := .later }
def ScriptPagesUptoCardSaid : Prop := Claim7.holds Tryz.pinned (.plain (OpenSpec.upto scriptPagesSpec)) scriptPagesUptoCard

/-- THE SECOND FORM's CARD OF 'backlaw1.ScriptReads'. -/
def scriptReadsUptoCard : Claim7 := { stood := { row := scriptReadsUptoRow, standIns := [], harness := (true, "1845f1a4fe549ba4b03e96acfe4ec9265eddeb05d6543af20ce3168e3253dcd1"), looks := true }, kinds := [], alts := [], laidByText := true, laidKinds := [.data, .data, .data, .data, .sentinel, .sentinel, .listed, .data, .pinned], laidTests := true, laidLooks := .later }
def ScriptReadsUptoCardSaid : Prop := Claim7.holds Tryz.pinned (.plain (OpenSpec.upto scriptReadsSpec)) scriptReadsUptoCard
end Rows
end Go.Proofs.YtmofncdjhdnoiaaGreatDoor
