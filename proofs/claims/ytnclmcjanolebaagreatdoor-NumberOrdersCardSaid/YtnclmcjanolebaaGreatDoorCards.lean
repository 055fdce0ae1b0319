/-
  DERIVED. GIVEN WITH THE SEED: THE CARDS: each row of YtnclmcjanolebaaGreatDoorRows.lean that lists a variable, with what it lists TIED to the program's text (the seventh form; the later family's looks); each row that meets fmt, with fmt's text TOLD by the authors' own Lean function (tested against real Go, not proved from fmt's source: count such statements apart). THE CARD IS WHAT COUNTS. Prove the row's statement (the work); the ties are given (YtnclmcjanolebaaGreatDoorTie.lean); close each card by the builder's one call (the guide's Derived/Test/ToyasCard.lean, 'card_holds'). Laid BY PROGRAM, IN A SANDBOX (cutbox-door.mjs). By AI agents, Wed Nov 11 2026. No macro, syntax, notation, axiom, sorry.
-/
import Derived.Test.YtnclmcjanolebaaGreatDoorRows
import GoSem.ClaimSeven
namespace Go.Proofs.YtnclmcjanolebaaGreatDoor
namespace Rows

/-- THE TIED CARD OF 'backlaw1.NumberBetweens'. -/
def numberBetweensCard : Claim7 := { stood := { row := numberBetweensRow, standIns := [], harness := (true, "4d78412ce739726bdd61948fb3652588e629aaab41b9e1e76dd2df4a171aed79"), looks := true }, kinds := [], alts := [], laidByText := true, laidKinds := [.data, .data, .data, .data, .sentinel, .sentinel, .pinned], laidTests := true, laidLooks := .later }
def NumberBetweensCardSaid : Prop := Claim7.holds Tryz.pinned (.plain (OpenSpec.ofChange numberBetweensSpec)) numberBetweensCard

/-- THE TIED CARD OF 'backlaw1.NumberOrders'. -/
def numberOrdersCard : Claim7 := { stood := { row := numberOrdersRow, standIns := [], harness := (true, "4d78412ce739726bdd61948fb3652588e629aaab41b9e1e76dd2df4a171aed79"), looks := true }, kinds := [], alts := [], laidByText := true, laidKinds := [.data, .data, .data, .data, .sentinel, .sentinel, .pinned], laidTests := true, laidLooks := .later }
def NumberOrdersCardSaid : Prop := Claim7.holds Tryz.pinned (.plain (OpenSpec.ofChange numberOrdersSpec)) numberOrdersCard

/-- THE TIED CARD OF 'backlaw1.ListPairs'. -/
def listPairsCard : Claim7 := { stood := { row := listPairsRow, standIns := [], harness := (true, "4d78412ce739726bdd61948fb3652588e629aaab41b9e1e76dd2df4a171aed79"), looks := true }, kinds := [], alts := [], laidByText := true, laidKinds := [.data, .data, .data, .data, .sentinel, .sentinel, .pinned], laidTests := true, laidLooks := .later }
def ListPairsCardSaid : Prop := Claim7.holds Tryz.pinned (.plain (OpenSpec.ofChange listPairsSpec)) listPairsCard

/-- THE TIED CARD OF 'backlaw1.ListPatches'. -/
def listPatchesCard : Claim7 := { stood := { row := listPatchesRow, standIns := [], harness := (true, "4d78412ce739726bdd61948fb3652588e629aaab41b9e1e76dd2df4a171aed79"), looks := true }, kinds := [], alts := [], laidByText := true, laidKinds := [.data, .data, .data, .data, .sentinel, .sentinel, .pinned], laidTests := true, laidLooks := .later }
def ListPatchesCardSaid : Prop := Claim7.holds Tryz.pinned (.plain (OpenSpec.ofChange listPatchesSpec)) listPatchesCard

/-- THE TIED CARD OF 'backlaw1.DraftLocks'. -/
def draftLocksCard : Claim7 := { stood := { row := draftLocksRow, standIns := [], harness := (true, "4d78412ce739726bdd61948fb3652588e629aaab41b9e1e76dd2df4a171aed79"), looks := true }, kinds := [], alts := [], laidByText := true, laidKinds := [.data, .data, .data, .data, .sentinel, .sentinel, .listed, .data, .pinned], laidTests := true, laidLooks := .later }
def DraftLocksCardSaid : Prop := Claim7.holds Tryz.pinned (.plain (OpenSpec.ofChange draftLocksSpec)) draftLocksCard

/-- THE SECOND FORM's CARD OF 'backlaw1.NumberBetweens'. -/
def numberBetweensUptoCard : Claim7 := { stood := { row := numberBetweensUptoRow, standIns := [], harness := (true, "4d78412ce739726bdd61948fb3652588e629aaab41b9e1e76dd2df4a171aed79"), looks := true }, kinds := [], alts := [], laidByText := true, laidKinds := [.data, .data, .data, .data, .sentinel, .sentinel, .pinned], laidTests := true, laidLooks := .later }
def NumberBetweensUptoCardSaid : Prop := Claim7.holds Tryz.pinned (.plain (OpenSpec.upto numberBetweensSpec)) numberBetweensUptoCard

/-- THE SECOND FORM's CARD OF 'backlaw1.NumberOrders'. -/
def numberOrdersUptoCard : Claim7 := { stood := { row := numberOrdersUptoRow, standIns := [], harness := (true, "4d78412ce739726bdd61948fb3652588e629aaab41b9e1e76dd2df4a171aed79"), looks := true }, kinds := [], alts := [], laidByText := true, laidKinds := [.data, .data, .data, .data, .sentinel, .sentinel, .pinned], laidTests := true, laidLooks := .later }
def NumberOrdersUptoCardSaid : Prop := Claim7.holds Tryz.pinned (.plain (OpenSpec.upto numberOrdersSpec)) numberOrdersUptoCard

/-- THE SECOND FORM's CARD OF 'backlaw1.ListPairs'. -/
def listPairsUptoCard : Claim7 := { stood := { row := listPairsUptoRow, standIns := [], harness := (true, "4d78412ce739726bdd61948fb3652588e629aaab41b9e1e76dd2df4a171aed79"), looks := true }, kinds := [], alts := [], laidByText := true, laidKinds := [.data, .data, .data, .data, .sentinel, .sentinel, .pinned], laidTests := true, laidLooks := .later }
def ListPairsUptoCardSaid : Prop := Claim7.holds Tryz.pinned (.plain (OpenSpec.upto listPairsSpec)) listPairsUptoCard

/-- THE SECOND FORM's CARD OF 'backlaw1.ListPatches'. -/
def listPatchesUptoCard : Claim7 := { stood := { row := listPatchesUptoRow, standIns := [], harness := (true, "4d78412ce739726bdd61948fb3652588e629aaab41b9e1e76dd2df4a171aed79"), looks := true }, kinds := [], alts := [], laidByText := true, laidKinds := [.data, .data, .data, .data, .sentinel, .sentinel, .pinned], laidTests := true, laidLooks := .later }
def ListPatchesUptoCardSaid : Prop := Claim7.holds Tryz.pinned (.plain (OpenSpec.upto listPatchesSpec)) listPatchesUptoCard

/-- THE SECOND FORM's CARD OF 'backlaw1.DraftLocks'. -/
def draftLocksUptoCard : Claim7 := { stood := { row := draftLocksUptoRow, standIns := [], harness := (true, "4d78412ce739726bdd61948fb3652588e629aaab41b9e1e76dd2df4a171aed79"), looks := true }, kinds := [], alts := [], laidByText := true, laidKinds := [.data, .data, .data, .data, .sentinel, .sentinel, .listed, .data, .pinned], laidTests := true, laidLooks := .later }
def DraftLocksUptoCardSaid : Prop := Claim7.holds Tryz.pinned (.plain (OpenSpec.upto draftLocksSpec)) draftLocksUptoCard
end Rows
end Go.Proofs.YtnclmcjanolebaaGreatDoor
