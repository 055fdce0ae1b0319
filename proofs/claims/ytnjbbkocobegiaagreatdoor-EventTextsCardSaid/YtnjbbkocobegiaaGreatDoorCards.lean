/-
  DERIVED. GIVEN WITH THE SEED: THE CARDS: each row of YtnjbbkocobegiaaGreatDoorRows.lean that lists a variable, with what it lists TIED to the program's text (the seventh form; the later family's looks); each row that meets fmt, with fmt's text TOLD by the authors' own Lean function (tested against real Go, not proved from fmt's source: count such statements apart). THE CARD IS WHAT COUNTS. Prove the row's statement (the work); the ties are given (YtnjbbkocobegiaaGreatDoorTie.lean); close each card by the builder's one call (the guide's Derived/Test/ToyasCard.lean, 'card_holds'). Laid BY PROGRAM, IN A SANDBOX (cutbox-door.mjs). By AI agents, Wed Nov 11 2026. No macro, syntax, notation, axiom, sorry.
-/
import Derived.Test.YtnjbbkocobegiaaGreatDoorRows
import GoSem.ClaimSeven
namespace Go.Proofs.YtnjbbkocobegiaaGreatDoor
namespace Rows

/-- THE TIED CARD OF 'backlaw1.EventMakes'. -/
def eventMakesCard : Claim7 := { stood := { row := eventMakesRow, standIns := [], harness := (true, "3df7203d2645959fab2ceb8bd365586306bab52194dfd3c8a38c2f2bd3eb0bf3"), looks := true }, kinds := [], alts := [], laidByText := true, laidKinds := [.data, .data, .data, .data, .sentinel, .sentinel, .pinned], laidTests := true, laidLooks := .later }
def EventMakesCardSaid : Prop := Claim7.holds Tryz.pinned (.plain (OpenSpec.ofChange eventMakesSpec)) eventMakesCard

/-- THE TIED CARD OF 'backlaw1.EventTexts'. -/
def eventTextsCard : Claim7 := { stood := { row := eventTextsRow, standIns := [], harness := (true, "3df7203d2645959fab2ceb8bd365586306bab52194dfd3c8a38c2f2bd3eb0bf3"), looks := true }, kinds := [], alts := [], laidByText := true, laidKinds := [.data, .data, .data, .data, .sentinel, .sentinel, .pinned], laidTests := true, laidLooks := .later }
def EventTextsCardSaid : Prop := Claim7.holds Tryz.pinned (.plain (OpenSpec.ofChange eventTextsSpec)) eventTextsCard

/-- THE TIED CARD OF 'backlaw1.TagMatches'. -/
def tagMatchesCard : Claim7 := { stood := { row := tagMatchesRow, standIns := [], harness := (true, "3df7203d2645959fab2ceb8bd365586306bab52194dfd3c8a38c2f2bd3eb0bf3"), looks := true }, kinds := [], alts := [], laidByText := true, laidKinds := [.data, .data, .data, .data, .sentinel, .sentinel, .listed, .data, .pinned], laidTests := true, laidLooks := .later }
def TagMatchesCardSaid : Prop := Claim7.holds Tryz.pinned (.plain (OpenSpec.ofChange tagMatchesSpec)) tagMatchesCard

/-- THE TIED CARD OF 'backlaw1.TagElements'. -/
def tagElementsCard : Claim7 := { stood := { row := tagElementsRow, standIns := [], harness := (true, "3df7203d2645959fab2ceb8bd365586306bab52194dfd3c8a38c2f2bd3eb0bf3"), looks := true }, kinds := [], alts := [], laidByText := true, laidKinds := [.data, .data, .data, .data, .sentinel, .sentinel, .listed, .data, .pinned], laidTests := true, laidLooks := .later }
def TagElementsCardSaid : Prop := Claim7.holds Tryz.pinned (.plain (OpenSpec.ofChange tagElementsSpec)) tagElementsCard

/-- THE SECOND FORM's CARD OF 'backlaw1.EventMakes'. -/
def eventMakesUptoCard : Claim7 := { stood := { row := eventMakesUptoRow, standIns := [], harness := (true, "3df7203d2645959fab2ceb8bd365586306bab52194dfd3c8a38c2f2bd3eb0bf3"), looks := true }, kinds := [], alts := [], laidByText := true, laidKinds := [.data, .data, .data, .data, .sentinel, .sentinel, .pinned], laidTests := true, laidLooks := .later }
def EventMakesUptoCardSaid : Prop := Claim7.holds Tryz.pinned (.plain (OpenSpec.upto eventMakesSpec)) eventMakesUptoCard

/-- THE SECOND FORM's CARD OF 'backlaw1.EventTexts'. -/
def eventTextsUptoCard : Claim7 := { stood := { row := eventTextsUptoRow, standIns := [], harness := (true, "3df7203d2645959fab2ceb8bd365586306bab52194dfd3c8a38c2f2bd3eb0bf3"), looks := true }, kinds := [], alts := [], laidByText := true, laidKinds := [.data, .data, .data, .data, .sentinel, .sentinel, .pinned], laidTests := true, laidLooks := .later }
def EventTextsUptoCardSaid : Prop := Claim7.holds Tryz.pinned (.plain (OpenSpec.upto eventTextsSpec)) eventTextsUptoCard

/-- THE SECOND FORM's CARD OF 'backlaw1.TagMatches'. -/
def tagMatchesUptoCard : Claim7 := { stood := { row := tagMatchesUptoRow, standIns := [], harness := (true, "3df7203d2645959fab2ceb8bd365586306bab52194dfd3c8a38c2f2bd3eb0bf3"), looks := true }, kinds := [], alts := [], laidByText := true, laidKinds := [.data, .data, .data, .data, .sentinel, .sentinel, .listed, .data, .pinned], laidTests := true, laidLooks := .later }
def TagMatchesUptoCardSaid : Prop := Claim7.holds Tryz.pinned (.plain (OpenSpec.upto tagMatchesSpec)) tagMatchesUptoCard

/-- THE SECOND FORM's CARD OF 'backlaw1.TagElements'. -/
def tagElementsUptoCard : Claim7 := { stood := { row := tagElementsUptoRow, standIns := [], harness := (true, "3df7203d2645959fab2ceb8bd365586306bab52194dfd3c8a38c2f2bd3eb0bf3"), looks := true }, kinds := [], alts := [], laidByText := true, laidKinds := [.data, .data, .data, .data, .sentinel, .sentinel, .listed, .data, .pinned], laidTests := true, laidLooks := .later }
def TagElementsUptoCardSaid : Prop := Claim7.holds Tryz.pinned (.plain (OpenSpec.upto tagElementsSpec)) tagElementsUptoCard
end Rows
end Go.Proofs.YtnjbbkocobegiaaGreatDoor
