/-
  DERIVED. GIVEN WITH THE SEED: THE CARDS: each row of YtlfnmmnbfoimeaaGreatDoorRows.lean that lists a variable, with what it lists TIED to the program's text (the seventh form; the later family's looks); each row that meets fmt, with fmt's text TOLD by the authors' own Lean function (tested against real Go, not proved from fmt's source: count such statements apart). THE CARD IS WHAT COUNTS. Prove the row's statement (the work); the ties are given (YtlfnmmnbfoimeaaGreatDoorTie.lean); close each card by the builder's one call (the guide's Derived/Test/ToyasCard.lean, 'card_holds'). Laid BY PROGRAM, IN A SANDBOX (cutbox-door.mjs). By AI agents, Wed Nov 11 2026. No macro, syntax, notation, axiom, sorry.
-/
import Derived.Test.YtlfnmmnbfoimeaaGreatDoorRows
import GoSem.ClaimSeven
namespace Go.Proofs.YtlfnmmnbfoimeaaGreatDoor
namespace Rows

/-- THE TIED CARD OF 'backlaw1.TagMentions'. -/
def tagMentionsCard : Claim7 := { stood := { row := tagMentionsRow, standIns := [], harness := (true, "e961d54b2fb5111fdba609e68abade3d4ed587a95304f3cd9d9837039c9a6821"), looks := true }, kinds := [], alts := [], laidByText := true, laidKinds := [.data, .data, .data, .data, .sentinel, .sentinel, .listed, .data, .pinned], laidTests := true, laidLooks := .later }
def TagMentionsCardSaid : Prop := Claim7.holds Tryz.pinned (.plain (OpenSpec.ofChange tagMentionsSpec)) tagMentionsCard

/-- THE SECOND FORM's CARD OF 'backlaw1.TagMentions'. -/
def tagMentionsUptoCard : Claim7 := { stood := { row := tagMentionsUptoRow, standIns := [], harness := (true, "e961d54b2fb5111fdba609e68abade3d4ed587a95304f3cd9d9837039c9a6821"), looks := true }, kinds := [], alts := [], laidByText := true, laidKinds := [.data, .data, .data, .data, .sentinel, .sentinel, .listed, .data, .pinned], laidTests := true, laidLooks := .later }
def TagMentionsUptoCardSaid : Prop := Claim7.holds Tryz.pinned (.plain (OpenSpec.upto tagMentionsSpec)) tagMentionsUptoCard
end Rows
end Go.Proofs.YtlfnmmnbfoimeaaGreatDoor
