/-
  DERIVED. GIVEN WITH THE SEED: THE CARDS: each row of YtnnnmbipmfopmaaGreatDoorRows.lean that lists a variable, with what it lists TIED to the program's text (the seventh form; the later family's looks); each row that meets fmt, with fmt's text TOLD by the authors' own Lean function (tested against real Go, not proved from fmt's source: count such statements apart). THE CARD IS WHAT COUNTS. Prove the row's statement (the work); the ties are given (YtnnnmbipmfopmaaGreatDoorTie.lean); close each card by the builder's one call (the guide's Derived/Test/ToyasCard.lean, 'card_holds'). Laid BY PROGRAM, IN A SANDBOX (cutbox-door.mjs). By AI agents, Wed Nov 11 2026. No macro, syntax, notation, axiom, sorry.
-/
import Derived.Test.YtnnnmbipmfopmaaGreatDoorRows
import GoSem.ClaimSeven
namespace Go.Proofs.YtnnnmbipmfopmaaGreatDoor
namespace Rows

/-- THE TIED CARD OF 'backlaw1.ListPatches'. -/
def listPatchesCard : Claim7 := { stood := { row := listPatchesRow, standIns := [], harness := (true, "8105c6ab6a557aad55206d73ddd440b3c49fe3b1092cfd1ce2befbd6c8a8f7e6"), looks := true }, kinds := [], alts := [], laidByText := true, laidKinds := [.data, .data, .data, .data, .sentinel, .sentinel, .pinned], laidTests := true, laidLooks := .later }
def ListPatchesCardSaid : Prop := Claim7.holds Tryz.pinned (.plain (OpenSpec.ofChange listPatchesSpec)) listPatchesCard

/-- THE TIED CARD OF 'backlaw1.ListMerges'. -/
def listMergesCard : Claim7 := { stood := { row := listMergesRow, standIns := [], harness := (true, "8105c6ab6a557aad55206d73ddd440b3c49fe3b1092cfd1ce2befbd6c8a8f7e6"), looks := true }, kinds := [], alts := [], laidByText := true, laidKinds := [.data, .data, .data, .data, .sentinel, .sentinel, .pinned], laidTests := true, laidLooks := .later }
def ListMergesCardSaid : Prop := Claim7.holds Tryz.pinned (.plain (OpenSpec.ofChange listMergesSpec)) listMergesCard

/-- THE SECOND FORM's CARD OF 'backlaw1.ListPatches'. -/
def listPatchesUptoCard : Claim7 := { stood := { row := listPatchesUptoRow, standIns := [], harness := (true, "8105c6ab6a557aad55206d73ddd440b3c49fe3b1092cfd1ce2befbd6c8a8f7e6"), looks := true }, kinds := [], alts := [], laidByText := true, laidKinds := [.data, .data, .data, .data, .sentinel, .sentinel, .pinned], laidTests := true, laidLooks := .later }
def ListPatchesUptoCardSaid : Prop := Claim7.holds Tryz.pinned (.plain (OpenSpec.upto listPatchesSpec)) listPatchesUptoCard

/-- THE SECOND FORM's CARD OF 'backlaw1.ListMerges'. -/
def listMergesUptoCard : Claim7 := { stood := { row := listMergesUptoRow, standIns := [], harness := (true, "8105c6ab6a557aad55206d73ddd440b3c49fe3b1092cfd1ce2befbd6c8a8f7e6"), looks := true }, kinds := [], alts := [], laidByText := true, laidKinds := [.data, .data, .data, .data, .sentinel, .sentinel, .pinned], laidTests := true, laidLooks := .later }
def ListMergesUptoCardSaid : Prop := Claim7.holds Tryz.pinned (.plain (OpenSpec.upto listMergesSpec)) listMergesUptoCard
end Rows
end Go.Proofs.YtnnnmbipmfopmaaGreatDoor
