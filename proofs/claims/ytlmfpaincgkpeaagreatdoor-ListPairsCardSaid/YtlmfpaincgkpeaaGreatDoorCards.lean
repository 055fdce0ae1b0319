/-
  DERIVED. GIVEN WITH THE SEED: THE CARDS: each row of YtlmfpaincgkpeaaGreatDoorRows.lean that lists a variable, with what it lists TIED to the program's text (the seventh form; the later family's looks); each row that meets fmt, with fmt's text TOLD by the authors' own Lean function (tested against real Go, not proved from fmt's source: count such statements apart). THE CARD IS WHAT COUNTS. Prove the row's statement (the work); the ties are given (YtlmfpaincgkpeaaGreatDoorTie.lean); close each card by the builder's one call (the guide's Derived/Test/ToyasCard.lean, 'card_holds'). Laid BY PROGRAM, IN A SANDBOX (cutbox-door.mjs). By AI agents, Wed Nov 11 2026. No macro, syntax, notation, axiom, sorry.
-/
import Derived.Test.YtlmfpaincgkpeaaGreatDoorRows
import GoSem.ClaimSeven
namespace Go.Proofs.YtlmfpaincgkpeaaGreatDoor
namespace Rows

/-- THE TIED CARD OF 'backlaw1.NumberBetweens'. -/
def numberBetweensCard : Claim7 := { stood := { row := numberBetweensRow, standIns := [], harness := (true, "f8989907f77c365de05d9f34d34fd47868c70cf3684deac152afa1565260d297"), looks := true }, kinds := [], alts := [], laidByText := true, laidKinds := [.data, .data, .data, .data, .sentinel, .sentinel, .pinned], laidTests := true, laidLooks := .later }
def NumberBetweensCardSaid : Prop := Claim7.holds Tryz.pinned (.plain (OpenSpec.ofChange numberBetweensSpec)) numberBetweensCard

/-- THE TIED CARD OF 'backlaw1.DraftLocks'. -/
def draftLocksCard : Claim7 := { stood := { row := draftLocksRow, standIns := [], harness := (true, "f8989907f77c365de05d9f34d34fd47868c70cf3684deac152afa1565260d297"), looks := true }, kinds := [], alts := [], laidByText := true, laidKinds := [.data, .data, .data, .data, .sentinel, .sentinel, .listed, .data, .pinned], laidTests := true, laidLooks := .later }
def DraftLocksCardSaid : Prop := Claim7.holds Tryz.pinned (.plain (OpenSpec.ofChange draftLocksSpec)) draftLocksCard

/-- THE TIED CARD OF 'backlaw1.ListPairs'. -/
def listPairsCard : Claim7 := { stood := { row := listPairsRow, standIns := [], harness := (true, "f8989907f77c365de05d9f34d34fd47868c70cf3684deac152afa1565260d297"), looks := true }, kinds := [], alts := [], laidByText := true, laidKinds := [.data, .data, .data, .data, .sentinel, .sentinel, .pinned], laidTests := true, laidLooks := .later }
def ListPairsCardSaid : Prop := Claim7.holds Tryz.pinned (.plain (OpenSpec.ofChange listPairsSpec)) listPairsCard

/-- THE TIED CARD OF 'backlaw1.ListPatches'. -/
def listPatchesCard : Claim7 := { stood := { row := listPatchesRow, standIns := [], harness := (true, "f8989907f77c365de05d9f34d34fd47868c70cf3684deac152afa1565260d297"), looks := true }, kinds := [], alts := [], laidByText := true, laidKinds := [.data, .data, .data, .data, .sentinel, .sentinel, .pinned], laidTests := true, laidLooks := .later }
def ListPatchesCardSaid : Prop := Claim7.holds Tryz.pinned (.plain (OpenSpec.ofChange listPatchesSpec)) listPatchesCard

/-- THE TIED CARD OF 'backlaw1.ListMerges'. -/
def listMergesCard : Claim7 := { stood := { row := listMergesRow, standIns := [], harness := (true, "f8989907f77c365de05d9f34d34fd47868c70cf3684deac152afa1565260d297"), looks := true }, kinds := [], alts := [], laidByText := true, laidKinds := [.data, .data, .data, .data, .sentinel, .sentinel, .pinned], laidTests := true, laidLooks := .later }
def ListMergesCardSaid : Prop := Claim7.holds Tryz.pinned (.plain (OpenSpec.ofChange listMergesSpec)) listMergesCard

/-- THE SECOND FORM's CARD OF 'backlaw1.NumberBetweens'. -/
def numberBetweensUptoCard : Claim7 := { stood := { row := numberBetweensUptoRow, standIns := [], harness := (true, "f8989907f77c365de05d9f34d34fd47868c70cf3684deac152afa1565260d297"), looks := true }, kinds := [], alts := [], laidByText := true, laidKinds := [.data, .data, .data, .data, .sentinel, .sentinel, .pinned], laidTests := true, laidLooks := .later }
def NumberBetweensUptoCardSaid : Prop := Claim7.holds Tryz.pinned (.plain (OpenSpec.upto numberBetweensSpec)) numberBetweensUptoCard

/-- THE SECOND FORM's CARD OF 'backlaw1.DraftLocks'. -/
def draftLocksUptoCard : Claim7 := { stood := { row := draftLocksUptoRow, standIns := [], harness := (true, "f8989907f77c365de05d9f34d34fd47868c70cf3684deac152afa1565260d297"), looks := true }, kinds := [], alts := [], laidByText := true, laidKinds := [.data, .data, .data, .data, .sentinel, .sentinel, .listed, .data, .pinned], laidTests := true, laidLooks := .later }
def DraftLocksUptoCardSaid : Prop := Claim7.holds Tryz.pinned (.plain (OpenSpec.upto draftLocksSpec)) draftLocksUptoCard

/-- THE SECOND FORM's CARD OF 'backlaw1.ListPairs'. -/
def listPairsUptoCard : Claim7 := { stood := { row := listPairsUptoRow, standIns := [], harness := (true, "f8989907f77c365de05d9f34d34fd47868c70cf3684deac152afa1565260d297"), looks := true }, kinds := [], alts := [], laidByText := true, laidKinds := [.data, .data, .data, .data, .sentinel, .sentinel, .pinned], laidTests := true, laidLooks := .later }
def ListPairsUptoCardSaid : Prop := Claim7.holds Tryz.pinned (.plain (OpenSpec.upto listPairsSpec)) listPairsUptoCard

/-- THE SECOND FORM's CARD OF 'backlaw1.ListPatches'. -/
def listPatchesUptoCard : Claim7 := { stood := { row := listPatchesUptoRow, standIns := [], harness := (true, "f8989907f77c365de05d9f34d34fd47868c70cf3684deac152afa1565260d297"), looks := true }, kinds := [], alts := [], laidByText := true, laidKinds := [.data, .data, .data, .data, .sentinel, .sentinel, .pinned], laidTests := true, laidLooks := .later }
def ListPatchesUptoCardSaid : Prop := Claim7.holds Tryz.pinned (.plain (OpenSpec.upto listPatchesSpec)) listPatchesUptoCard

/-- THE SECOND FORM's CARD OF 'backlaw1.ListMerges'. -/
def listMergesUptoCard : Claim7 := { stood := { row := listMergesUptoRow, standIns := [], harness := (true, "f8989907f77c365de05d9f34d34fd47868c70cf3684deac152afa1565260d297"), looks := true }, kinds := [], alts := [], laidByText := true, laidKinds := [.data, .data, .data, .data, .sentinel, .sentinel, .pinned], laidTests := true, laidLooks := .later }
def ListMergesUptoCardSaid : Prop := Claim7.holds Tryz.pinned (.plain (OpenSpec.upto listMergesSpec)) listMergesUptoCard
end Rows
end Go.Proofs.YtlmfpaincgkpeaaGreatDoor
