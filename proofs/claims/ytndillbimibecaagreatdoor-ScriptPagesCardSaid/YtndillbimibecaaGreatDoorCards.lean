/-
  DERIVED. GIVEN WITH THE SEED: THE CARDS: each row of YtndillbimibecaaGreatDoorRows.lean that lists a variable, with what it lists TIED to the program's text (the seventh form; the later family's looks); each row that meets fmt, with fmt's text TOLD by the authors' own Lean function (tested against real Go, not proved from fmt's source: count such statements apart). THE CARD IS WHAT COUNTS. Prove the row's statement (the work); the ties are given (YtndillbimibecaaGreatDoorTie.lean); close each card by the builder's one call (the guide's Derived/Test/ToyasCard.lean, 'card_holds'). Laid BY PROGRAM, IN A SANDBOX (cutbox-door.mjs). By AI agents, Wed Nov 11 2026. No macro, syntax, notation, axiom, sorry.
-/
import Derived.Test.YtndillbimibecaaGreatDoorRows
import GoSem.ClaimSeven
namespace Go.Proofs.YtndillbimibecaaGreatDoor
namespace Rows

/-- THE TIED CARD OF 'backlaw1.ScriptPages'. -/
def scriptPagesCard : Claim7 := { stood := { row := scriptPagesRow, standIns := [], harness := (true, "07f0420221572bc4f8acb7dd3d38a5e66fbf8119b3a20cee4101235b7d872059"), looks := false }, kinds := [], alts := [], laidByText := true, laidKinds := [.data, .data, .data, .data, .listed, .data, .pinned], laidTests := true, laidLooks := .later }
def ScriptPagesCardSaid : Prop := Claim7.holds Tryz.pinned (.plain (OpenSpec.ofChange scriptPagesSpec)) scriptPagesCard

/-- THE SECOND FORM's CARD OF 'backlaw1.ScriptPages'. -/
def scriptPagesUptoCard : Claim7 := { stood := { row := scriptPagesUptoRow, standIns := [], harness := (true, "07f0420221572bc4f8acb7dd3d38a5e66fbf8119b3a20cee4101235b7d872059"), looks := false }, kinds := [], alts := [], laidByText := true, laidKinds := [.data, .data, .data, .data, .listed, .data, .pinned], laidTests := true, laidLooks := .later }
def ScriptPagesUptoCardSaid : Prop := Claim7.holds Tryz.pinned (.plain (OpenSpec.upto scriptPagesSpec)) scriptPagesUptoCard
end Rows
end Go.Proofs.YtndillbimibecaaGreatDoor
