/-
  DERIVED. GIVEN WITH THE SEED: THE CARDS: each row of YtojgjejbhcjifaaGreatDoorRows.lean that lists a variable, with what it lists TIED to the program's text (the seventh form; the later family's looks); each row that meets fmt, with fmt's text TOLD by the authors' own Lean function (tested against real Go, not proved from fmt's source: count such statements apart). THE CARD IS WHAT COUNTS. Prove the row's statement (the work); the ties are given (YtojgjejbhcjifaaGreatDoorTie.lean); close each card by the builder's one call (the guide's Derived/Test/ToyasCard.lean, 'card_holds'). Laid BY PROGRAM, IN A SANDBOX (cutbox-door.mjs). By AI agents, Wed Nov 11 2026. No macro, syntax, notation, axiom, sorry.
-/
import Derived.Test.YtojgjejbhcjifaaGreatDoorRows
import GoSem.ClaimSeven
namespace Go.Proofs.YtojgjejbhcjifaaGreatDoor
namespace Rows

/-- THE TIED CARD OF 'backlaw1.TagMatches'. -/
def tagMatchesCard : Claim7 := { stood := { row := tagMatchesRow, standIns := [], harness := (true, "2470fa8dcac4b24f327852ce5f5f96328d4a9a941cec30f35f43da7a48fe7bb6"), looks := true }, kinds := [], alts := [], laidByText := true, laidKinds := [.data, .data, .data, .data, .sentinel, .sentinel, .listed, .data, .pinned], laidTests := true, laidLooks := .later }
def TagMatchesCardSaid : Prop := Claim7.holds Tryz.pinned (.plain (OpenSpec.ofChange tagMatchesSpec)) tagMatchesCard

/-- THE TIED CARD OF 'backlaw1.TagElements'. -/
def tagElementsCard : Claim7 := { stood := { row := tagElementsRow, standIns := [], harness := (true, "2470fa8dcac4b24f327852ce5f5f96328d4a9a941cec30f35f43da7a48fe7bb6"), looks := true }, kinds := [], alts := [], laidByText := true, laidKinds := [.data, .data, .data, .data, .sentinel, .sentinel, .listed, .data, .pinned], laidTests := true, laidLooks := .later }
def TagElementsCardSaid : Prop := Claim7.holds Tryz.pinned (.plain (OpenSpec.ofChange tagElementsSpec)) tagElementsCard

/-- THE SECOND FORM's CARD OF 'backlaw1.TagMatches'. -/
def tagMatchesUptoCard : Claim7 := { stood := { row := tagMatchesUptoRow, standIns := [], harness := (true, "2470fa8dcac4b24f327852ce5f5f96328d4a9a941cec30f35f43da7a48fe7bb6"), looks := true }, kinds := [], alts := [], laidByText := true, laidKinds := [.data, .data, .data, .data, .sentinel, .sentinel, .listed, .data, .pinned], laidTests := true, laidLooks := .later }
def TagMatchesUptoCardSaid : Prop := Claim7.holds Tryz.pinned (.plain (OpenSpec.upto tagMatchesSpec)) tagMatchesUptoCard

/-- THE SECOND FORM's CARD OF 'backlaw1.TagElements'. -/
def tagElementsUptoCard : Claim7 := { stood := { row := tagElementsUptoRow, standIns := [], harness := (true, "2470fa8dcac4b24f327852ce5f5f96328d4a9a941cec30f35f43da7a48fe7bb6"), looks := true }, kinds := [], alts := [], laidByText := true, laidKinds := [.data, .data, .data, .data, .sentinel, .sentinel, .listed, .data, .pinned], laidTests := true, laidLooks := .later }
def TagElementsUptoCardSaid : Prop := Claim7.holds Tryz.pinned (.plain (OpenSpec.upto tagElementsSpec)) tagElementsUptoCard
end Rows
end Go.Proofs.YtojgjejbhcjifaaGreatDoor
