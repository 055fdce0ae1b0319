/-
  DERIVED. GIVEN WITH THE SEED: THE CARDS: each row of YtnjbbkocobegiaaDoorRows.lean that lists a variable, with what it lists TIED to the program's text (the seventh form; the later family's looks); each row that meets fmt, with fmt's text TOLD by the authors' own Lean function (tested against real Go, not proved from fmt's source: count such statements apart). THE CARD IS WHAT COUNTS. Prove the row's statement (the work); the ties are given (YtnjbbkocobegiaaDoorTie.lean); close each card by the builder's one call (the guide's Derived/Test/ToyasCard.lean, 'card_holds'). Laid BY PROGRAM, IN A SANDBOX (cutbox-door.mjs). By AI agents, Wed Nov 11 2026. No macro, syntax, notation, axiom, sorry.
-/
import Derived.Test.YtnjbbkocobegiaaDoorRows
import GoSem.ClaimSeven
namespace Go.Proofs.YtnjbbkocobegiaaDoor
namespace Rows

/-- THE TIED CARD OF 'backlaw1.TakeFiles'. -/
def takeFilesCard : Claim7 := { stood := { row := takeFilesRow, standIns := [], harness := (true, "bfaf2c18e0a2c1641c58ae9e1f47e0c793fc17427b72337b945f7c3217c843cf"), looks := false }, kinds := [], alts := [], laidByText := true, laidKinds := [.data, .data, .data, .data, .pinned], laidTests := true, laidLooks := .later }
def TakeFilesCardSaid : Prop := Claim7.holds Tryd.pinned (.plain (OpenSpec.ofChange takeFilesSpec)) takeFilesCard

/-- THE SECOND FORM's CARD OF 'backlaw1.TakeFiles'. -/
def takeFilesUptoCard : Claim7 := { stood := { row := takeFilesUptoRow, standIns := [], harness := (true, "bfaf2c18e0a2c1641c58ae9e1f47e0c793fc17427b72337b945f7c3217c843cf"), looks := false }, kinds := [], alts := [], laidByText := true, laidKinds := [.data, .data, .data, .data, .pinned], laidTests := true, laidLooks := .later }
def TakeFilesUptoCardSaid : Prop := Claim7.holds Tryd.pinned (.plain (OpenSpec.upto takeFilesSpec)) takeFilesUptoCard
end Rows
end Go.Proofs.YtnjbbkocobegiaaDoor
