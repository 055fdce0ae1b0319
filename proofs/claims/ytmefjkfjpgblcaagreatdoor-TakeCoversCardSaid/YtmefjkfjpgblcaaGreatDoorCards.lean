/-
  DERIVED. GIVEN WITH THE SEED: THE CARDS: each row of YtmefjkfjpgblcaaGreatDoorRows.lean that lists a variable, with what it lists TIED to the program's text (the seventh form; the later family's looks); each row that meets fmt, with fmt's text TOLD by the authors' own Lean function (tested against real Go, not proved from fmt's source: count such statements apart). THE CARD IS WHAT COUNTS. Prove the row's statement (the work); the ties are given (YtmefjkfjpgblcaaGreatDoorTie.lean); close each card by the builder's one call (the guide's Derived/Test/ToyasCard.lean, 'card_holds'). Laid BY PROGRAM, IN A SANDBOX (cutbox-door.mjs). By AI agents, Wed Nov 11 2026. No macro, syntax, notation, axiom, sorry.
-/
import Derived.Test.YtmefjkfjpgblcaaGreatDoorRows
import GoSem.ClaimSeven
namespace Go.Proofs.YtmefjkfjpgblcaaGreatDoor
namespace Rows

/-- THE TIED CARD OF 'backlaw1.TagMatches'. -/
def tagMatchesCard : Claim7 := { stood := { row := tagMatchesRow, standIns := [], harness := (true, "2097fca9c1688c34fcd31221963ade35a85aa10c1cd5581fc3f073b683743dd8"), looks := true }, kinds := [], alts := [], laidByText := true, laidKinds := [.data, .data, .data, .data, .sentinel, .sentinel, .listed, .data, .pinned], laidTests := true, laidLooks := .later }
def TagMatchesCardSaid : Prop := Claim7.holds Tryz.pinned (.plain (OpenSpec.ofChange tagMatchesSpec)) tagMatchesCard

/-- THE TIED CARD OF 'backlaw1.TagElements'. -/
def tagElementsCard : Claim7 := { stood := { row := tagElementsRow, standIns := [], harness := (true, "2097fca9c1688c34fcd31221963ade35a85aa10c1cd5581fc3f073b683743dd8"), looks := true }, kinds := [], alts := [], laidByText := true, laidKinds := [.data, .data, .data, .data, .sentinel, .sentinel, .listed, .data, .pinned], laidTests := true, laidLooks := .later }
def TagElementsCardSaid : Prop := Claim7.holds Tryz.pinned (.plain (OpenSpec.ofChange tagElementsSpec)) tagElementsCard

/-- THE TIED CARD OF 'backlaw1.TakeChecks'. -/
def takeChecksCard : Claim7 := { stood := { row := takeChecksRow, standIns := [], harness := (true, "2097fca9c1688c34fcd31221963ade35a85aa10c1cd5581fc3f073b683743dd8"), looks := true }, kinds := [], alts := [], laidByText := true, laidKinds := [.data, .data, .data, .data, .sentinel, .sentinel, .listed, .data, .pinned], laidTests := true, laidLooks := .later }
def TakeChecksCardSaid : Prop := Claim7.holds Tryz.pinned (.plain (OpenSpec.ofChange takeChecksSpec)) takeChecksCard

/-- THE TIED CARD OF 'backlaw1.TakeCovers'. -/
def takeCoversCard : Claim7 := { stood := { row := takeCoversRow, standIns := [], harness := (true, "2097fca9c1688c34fcd31221963ade35a85aa10c1cd5581fc3f073b683743dd8"), looks := true }, kinds := [], alts := [], laidByText := true, laidKinds := [.data, .data, .data, .data, .sentinel, .sentinel, .listed, .data, .pinned], laidTests := true, laidLooks := .later }
def TakeCoversCardSaid : Prop := Claim7.holds Tryz.pinned (.plain (OpenSpec.ofChange takeCoversSpec)) takeCoversCard

/-- THE TIED CARD OF 'backlaw1.ScriptPages'. -/
def scriptPagesCard : Claim7 := { stood := { row := scriptPagesRow, standIns := [], harness := (true, "2097fca9c1688c34fcd31221963ade35a85aa10c1cd5581fc3f073b683743dd8"), looks := true }, kinds := [], alts := [], laidByText := true, laidKinds := [.data, .data, .data, .data, .listed, .data, .pinned], laidTests := true, laidLooks := .later }
def ScriptPagesCardSaid : Prop := Claim7.holds Tryz.pinned (.plain (OpenSpec.ofChange scriptPagesSpec)) scriptPagesCard

/-- THE TIED CARD OF 'backlaw1.ScriptReads'. -/
def scriptReadsCard : Claim7 := { stood := { row := scriptReadsRow, standIns := [], harness := (true, "2097fca9c1688c34fcd31221963ade35a85aa10c1cd5581fc3f073b683743dd8"), looks := true }, kinds := [], alts := [], laidByText := true, laidKinds := [.data, .data, .data, .data, .sentinel, .sentinel, .listed, .data, .pinned], laidTests := true, laidLooks := .later }
def ScriptReadsCardSaid : Prop := Claim7.holds Tryz.pinned (.plain (OpenSpec.ofChange scriptReadsSpec)) scriptReadsCard

/-- THE SECOND FORM's CARD OF 'backlaw1.TagMatches'. -/
def tagMatchesUptoCard : Claim7 := { stood := { row := tagMatchesUptoRow, standIns := [], harness := (true, "2097fca9c1688c34fcd31221963ade35a85aa10c1cd5581fc3f073b683743dd8"), looks := true }, kinds := [], alts := [], laidByText := true, laidKinds := [.data, .data, .data, .data, .sentinel, .sentinel, .listed, .data, .pinned], laidTests := true, laidLooks := .later }
def TagMatchesUptoCardSaid : Prop := Claim7.holds Tryz.pinned (.plain (OpenSpec.upto tagMatchesSpec)) tagMatchesUptoCard

/-- THE SECOND FORM's CARD OF 'backlaw1.TagElements'. -/
def tagElementsUptoCard : Claim7 := { stood := { row := tagElementsUptoRow, standIns := [], harness := (true, "2097fca9c1688c34fcd31221963ade35a85aa10c1cd5581fc3f073b683743dd8"), looks := true }, kinds := [], alts := [], laidByText := true, laidKinds := [.data, .data, .data, .data, .sentinel, .sentinel, .listed, .data, .pinned], laidTests := true, laidLooks := .later }
def TagElementsUptoCardSaid : Prop := Claim7.holds Tryz.pinned (.plain (OpenSpec.upto tagElementsSpec)) tagElementsUptoCard

/-- THE SECOND FORM's CARD OF 'backlaw1.TakeChecks'. -/
def takeChecksUptoCard : Claim7 := { stood := { row := takeChecksUptoRow, standIns := [], harness := (true, "2097fca9c1688c34fcd31221963ade35a85aa10c1cd5581fc3f073b683743dd8"), looks := true }, kinds := [], alts := [], laidByText := true, laidKinds := [.data, .data, .data, .data, .sentinel, .sentinel, .listed, .data, .pinned], laidTests := true, laidLooks := .later }
def TakeChecksUptoCardSaid : Prop := Claim7.holds Tryz.pinned (.plain (OpenSpec.upto takeChecksSpec)) takeChecksUptoCard

/-- THE SECOND FORM's CARD OF 'backlaw1.TakeCovers'. -/
def takeCoversUptoCard : Claim7 := { stood := { row := takeCoversUptoRow, standIns := [], harness := (true, "2097fca9c1688c34fcd31221963ade35a85aa10c1cd5581fc3f073b683743dd8"), looks := true }, kinds := [], alts := [], laidByText := true, laidKinds := [.data, .data, .data, .data, .sentinel, .sentinel, .listed, .data, .pinned], laidTests := true, laidLooks := .later }
def TakeCoversUptoCardSaid : Prop := Claim7.holds Tryz.pinned (.plain (OpenSpec.upto takeCoversSpec)) takeCoversUptoCard

/-- THE SECOND FORM's CARD OF 'backlaw1.ScriptPages'. -/
def scriptPagesUptoCard : Claim7 := { stood := { row := scriptPagesUptoRow, standIns := [], harness := (true, "2097fca9c1688c34fcd31221963ade35a85aa10c1cd5581fc3f073b683743dd8"), looks := true }, kinds := [], alts := [], laidByText := true, laidKinds := [.data, .data, .data, .data, .listed, .data, .pinned], laidTests := true, laidLooks := .later }
def ScriptPagesUptoCardSaid : Prop := Claim7.holds Tryz.pinned (.plain (OpenSpec.upto scriptPagesSpec)) scriptPagesUptoCard

/-- THE SECOND FORM's CARD OF 'backlaw1.ScriptReads'. -/
def scriptReadsUptoCard : Claim7 := { stood := { row := scriptReadsUptoRow, standIns := [], harness := (true, "2097fca9c1688c34fcd31221963ade35a85aa10c1cd5581fc3f073b683743dd8"), looks := true }, kinds := [], alts := [], laidByText := true, laidKinds := [.data, .data, .data, .data, .sentinel, .sentinel, .listed, .data, .pinned], laidTests := true, laidLooks := .later }
def ScriptReadsUptoCardSaid : Prop := Claim7.holds Tryz.pinned (.plain (OpenSpec.upto scriptReadsSpec)) scriptReadsUptoCard
end Rows
end Go.Proofs.YtmefjkfjpgblcaaGreatDoor
