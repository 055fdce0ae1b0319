/-
  DERIVED. GIVEN WITH THE SEED: THE CARDS: each row of YtaoobkgepcikiaaGreatDoorRows.lean that lists a variable, with what it lists TIED to the program's text (the seventh form; the later family's looks); each row that meets fmt, with fmt's text TOLD by the authors' own Lean function (tested against real Go, not proved from fmt's source: count such statements apart). THE CARD IS WHAT COUNTS. Prove the row's statement (the work); the ties are given (YtaoobkgepcikiaaGreatDoorTie.lean); close each card by the builder's one call (the guide's Derived/Test/ToyasCard.lean, 'card_holds'). Laid BY PROGRAM, IN A SANDBOX (cutbox-door.mjs). By AI agents, Wed Nov 11 2026. No macro, syntax, notation, axiom, sorry.
-/
import Derived.Test.YtaoobkgepcikiaaGreatDoorRows
import GoSem.ClaimSeven
namespace Go.Proofs.YtaoobkgepcikiaaGreatDoor
namespace Rows

/-- THE TIED CARD OF 'backlaw1.DraftLocks'. -/
def draftLocksCard : Claim7 := { stood := { row := draftLocksRow, standIns := [], harness := (true, "25771e7ed5fb8119dfbb5fdd9a16a433815bccf194a26cadb7a5934a3a1c5903"), looks := true }, kinds := [], alts := [], laidByText := true, laidKinds := [.data, .data, .data, .data, .sentinel, .sentinel, .listed, .data, .pinned], laidTests := true, laidLooks := .later }
def DraftLocksCardSaid : Prop := Claim7.holds Tryz.pinned (.plain (OpenSpec.ofChange draftLocksSpec)) draftLocksCard

/-- THE SECOND FORM's CARD OF 'backlaw1.DraftLocks'. -/
def draftLocksUptoCard : Claim7 := { stood := { row := draftLocksUptoRow, standIns := [], harness := (true, "25771e7ed5fb8119dfbb5fdd9a16a433815bccf194a26cadb7a5934a3a1c5903"), looks := true }, kinds := [], alts := [], laidByText := true, laidKinds := [.data, .data, .data, .data, .sentinel, .sentinel, .listed, .data, .pinned], laidTests := true, laidLooks := .later }
def DraftLocksUptoCardSaid : Prop := Claim7.holds Tryz.pinned (.plain (OpenSpec.upto draftLocksSpec)) draftLocksUptoCard
end Rows
end Go.Proofs.YtaoobkgepcikiaaGreatDoor
