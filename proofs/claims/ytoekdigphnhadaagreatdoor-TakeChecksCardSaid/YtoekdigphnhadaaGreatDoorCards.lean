/-
  DERIVED. GIVEN WITH THE SEED: THE CARDS: each row of YtoekdigphnhadaaGreatDoorRows.lean that lists a variable, with what it lists TIED to the program's text (the seventh form; the later family's looks); each row that meets fmt, with fmt's text TOLD by the authors' own Lean function (tested against real Go, not proved from fmt's source: count such statements apart). THE CARD IS WHAT COUNTS. Prove the row's statement (the work); the ties are given (YtoekdigphnhadaaGreatDoorTie.lean); close each card by the builder's one call (the guide's Derived/Test/ToyasCard.lean, 'card_holds'). Laid BY PROGRAM, IN A SANDBOX (cutbox-door.mjs). By AI agents, Wed Nov 11 2026. No macro, syntax, notation, axiom, sorry.
-/
import Derived.Test.YtoekdigphnhadaaGreatDoorRows
import GoSem.ClaimSeven
namespace Go.Proofs.YtoekdigphnhadaaGreatDoor
namespace Rows

/-- THE TIED CARD OF 'backlaw1.TakeChecks'. -/
def takeChecksCard : Claim7 := { stood := { row := takeChecksRow, standIns := [], harness := (true, "ab0d8d4f34df1273a0bfd8dfee4f842689e633d4111fbca75d78c9e03dd72211"), looks := true }, kinds := [], alts := [], laidByText := true, laidKinds := [.data, .data, .data, .data, .sentinel, .sentinel, .listed, .data, .pinned], laidTests := true, laidLooks := .later }
def TakeChecksCardSaid : Prop := Claim7.holds Tryz.pinned (.plain (OpenSpec.ofChange takeChecksSpec)) takeChecksCard

/-- THE SECOND FORM's CARD OF 'backlaw1.TakeChecks'. -/
def takeChecksUptoCard : Claim7 := { stood := { row := takeChecksUptoRow, standIns := [], harness := (true, "ab0d8d4f34df1273a0bfd8dfee4f842689e633d4111fbca75d78c9e03dd72211"), looks := true }, kinds := [], alts := [], laidByText := true, laidKinds := [.data, .data, .data, .data, .sentinel, .sentinel, .listed, .data, .pinned], laidTests := true, laidLooks := .later }
def TakeChecksUptoCardSaid : Prop := Claim7.holds Tryz.pinned (.plain (OpenSpec.upto takeChecksSpec)) takeChecksUptoCard
end Rows
end Go.Proofs.YtoekdigphnhadaaGreatDoor
