/-
  DERIVED. GIVEN WITH THE SEED: THE CARDS: each row of YtnemcnpilngblaaDoorRows.lean that lists a variable, with what it lists TIED to the program's text (the seventh form; the later family's looks); each row that meets fmt, with fmt's text TOLD by the authors' own Lean function (tested against real Go, not proved from fmt's source: count such statements apart). THE CARD IS WHAT COUNTS. Prove the row's statement (the work); the ties are given (YtnemcnpilngblaaDoorTie.lean); close each card by the builder's one call (the guide's Derived/Test/ToyasCard.lean, 'card_holds'). Laid BY PROGRAM, IN A SANDBOX (cutbox-door.mjs). By AI agents, Wed Nov 11 2026. No macro, syntax, notation, axiom, sorry.
-/
import Derived.Test.YtnemcnpilngblaaDoorRows
import GoSem.ClaimSeven
namespace Go.Proofs.YtnemcnpilngblaaDoor
namespace Rows

/-- THE TIED CARD OF 'backlaw1.ScriptWraps'. -/
def scriptWrapsCard : Claim7 := { stood := { row := scriptWrapsRow, standIns := [], harness := (true, "c8b9e48b0fcc6d32b5b86dbdb8f8bcd6b58649d3f5641d65bd3e62442aaf2a09"), looks := false }, kinds := [], alts := [], laidByText := true, laidKinds := [.data, .listed, .data, .pinned], laidTests := true, laidLooks := .later }
def ScriptWrapsCardSaid : Prop := Claim7.holds Tryd.pinned (.plain (OpenSpec.ofChange scriptWrapsSpec)) scriptWrapsCard

/-- THE SECOND FORM's CARD OF 'backlaw1.ScriptWraps'. -/
def scriptWrapsUptoCard : Claim7 := { stood := { row := scriptWrapsUptoRow, standIns := [], harness := (true, "c8b9e48b0fcc6d32b5b86dbdb8f8bcd6b58649d3f5641d65bd3e62442aaf2a09"), looks := false }, kinds := [], alts := [], laidByText := true, laidKinds := [.data, .listed, .data, .pinned], laidTests := true, laidLooks := .later }
def ScriptWrapsUptoCardSaid : Prop := Claim7.holds Tryd.pinned (.plain (OpenSpec.upto scriptWrapsSpec)) scriptWrapsUptoCard
end Rows
end Go.Proofs.YtnemcnpilngblaaDoor
