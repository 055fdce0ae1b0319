/-
  DERIVED. GIVEN WITH THE SEED: THE CARDS: each row of YtihkkaeoijheoaaGreatDoorRows.lean that lists a variable, with what it lists TIED to the program's text (the seventh form; the later family's looks); each row that meets fmt, with fmt's text TOLD by the authors' own Lean function (tested against real Go, not proved from fmt's source: count such statements apart). THE CARD IS WHAT COUNTS. Prove the row's statement (the work); the ties are given (YtihkkaeoijheoaaGreatDoorTie.lean); close each card by the builder's one call (the guide's Derived/Test/ToyasCard.lean, 'card_holds'). Laid BY PROGRAM, IN A SANDBOX (cutbox-door.mjs). By AI agents, Wed Nov 11 2026. No macro, syntax, notation, axiom, sorry.
-/
import Derived.Test.YtihkkaeoijheoaaGreatDoorRows
import GoSem.ClaimSeven
namespace Go.Proofs.YtihkkaeoijheoaaGreatDoor
namespace Rows

/-- THE TIED CARD OF 'backlaw1.ScriptHeadings'. -/
def scriptHeadingsCard : Claim7 := { stood := { row := scriptHeadingsRow, standIns := [], harness := (true, "18f03486f38995eda59a3cb2ca422eda5cf4ea6fbdfb27847a426aef0a2b4742"), looks := true }, kinds := [], alts := [], laidByText := true, laidKinds := [.data, .listed, .data, .pinned], laidTests := true, laidLooks := .later }
def ScriptHeadingsCardSaid : Prop := Claim7.holds Tryz.pinned (.plain (OpenSpec.ofChange scriptHeadingsSpec)) scriptHeadingsCard

/-- THE TIED CARD OF 'backlaw1.TakeTexts'. -/
def takeTextsCard : Claim7 := { stood := { row := takeTextsRow, standIns := [], harness := (true, "18f03486f38995eda59a3cb2ca422eda5cf4ea6fbdfb27847a426aef0a2b4742"), looks := true }, kinds := [], alts := [], laidByText := true, laidKinds := [.data, .data, .data, .data, .sentinel, .sentinel, .pinned], laidTests := true, laidLooks := .later }
def TakeTextsCardSaid : Prop := Claim7.holds Tryz.pinned (.plain (OpenSpec.ofChange takeTextsSpec)) takeTextsCard

/-- THE TIED CARD OF 'backlaw1.ScriptTimes'. -/
def scriptTimesCard : Claim7 := { stood := { row := scriptTimesRow, standIns := [], harness := (true, "18f03486f38995eda59a3cb2ca422eda5cf4ea6fbdfb27847a426aef0a2b4742"), looks := true }, kinds := [], alts := [], laidByText := true, laidKinds := [.data, .data, .data, .data, .listed, .data, .pinned], laidTests := true, laidLooks := .later }
def ScriptTimesCardSaid : Prop := Claim7.holds Tryz.pinned (.plain (OpenSpec.ofChange scriptTimesSpec)) scriptTimesCard

/-- THE TIED CARD OF 'backlaw1.ScriptWords'. -/
def scriptWordsCard : Claim7 := { stood := { row := scriptWordsRow, standIns := [], harness := (true, "18f03486f38995eda59a3cb2ca422eda5cf4ea6fbdfb27847a426aef0a2b4742"), looks := true }, kinds := [], alts := [], laidByText := true, laidKinds := [.data, .data, .data, .data, .listed, .data, .pinned], laidTests := true, laidLooks := .later }
def ScriptWordsCardSaid : Prop := Claim7.holds Tryz.pinned (.plain (OpenSpec.ofChange scriptWordsSpec)) scriptWordsCard

/-- THE TIED CARD OF 'backlaw1.ScriptCasts'. -/
def scriptCastsCard : Claim7 := { stood := { row := scriptCastsRow, standIns := [], harness := (true, "18f03486f38995eda59a3cb2ca422eda5cf4ea6fbdfb27847a426aef0a2b4742"), looks := true }, kinds := [], alts := [], laidByText := true, laidKinds := [.data, .data, .data, .data, .listed, .data, .pinned], laidTests := true, laidLooks := .later }
def ScriptCastsCardSaid : Prop := Claim7.holds Tryz.pinned (.plain (OpenSpec.ofChange scriptCastsSpec)) scriptCastsCard

/-- THE TIED CARD OF 'backlaw1.ScriptRenames'. -/
def scriptRenamesCard : Claim7 := { stood := { row := scriptRenamesRow, standIns := [], harness := (true, "18f03486f38995eda59a3cb2ca422eda5cf4ea6fbdfb27847a426aef0a2b4742"), looks := true }, kinds := [], alts := [], laidByText := true, laidKinds := [.data, .data, .data, .data, .listed, .data, .pinned], laidTests := true, laidLooks := .later }
def ScriptRenamesCardSaid : Prop := Claim7.holds Tryz.pinned (.plain (OpenSpec.ofChange scriptRenamesSpec)) scriptRenamesCard

/-- THE TIED CARD OF 'backlaw1.ScriptSides'. -/
def scriptSidesCard : Claim7 := { stood := { row := scriptSidesRow, standIns := [], harness := (true, "18f03486f38995eda59a3cb2ca422eda5cf4ea6fbdfb27847a426aef0a2b4742"), looks := true }, kinds := [], alts := [], laidByText := true, laidKinds := [.data, .data, .data, .data, .listed, .data, .pinned], laidTests := true, laidLooks := .later }
def ScriptSidesCardSaid : Prop := Claim7.holds Tryz.pinned (.plain (OpenSpec.ofChange scriptSidesSpec)) scriptSidesCard

/-- THE SECOND FORM's CARD OF 'backlaw1.ScriptHeadings'. -/
def scriptHeadingsUptoCard : Claim7 := { stood := { row := scriptHeadingsUptoRow, standIns := [], harness := (true, "18f03486f38995eda59a3cb2ca422eda5cf4ea6fbdfb27847a426aef0a2b4742"), looks := true }, kinds := [], alts := [], laidByText := true, laidKinds := [.data, .listed, .data, .pinned], laidTests := true, laidLooks := .later }
def ScriptHeadingsUptoCardSaid : Prop := Claim7.holds Tryz.pinned (.plain (OpenSpec.upto scriptHeadingsSpec)) scriptHeadingsUptoCard

/-- THE SECOND FORM's CARD OF 'backlaw1.TakeTexts'. -/
def takeTextsUptoCard : Claim7 := { stood := { row := takeTextsUptoRow, standIns := [], harness := (true, "18f03486f38995eda59a3cb2ca422eda5cf4ea6fbdfb27847a426aef0a2b4742"), looks := true }, kinds := [], alts := [], laidByText := true, laidKinds := [.data, .data, .data, .data, .sentinel, .sentinel, .pinned], laidTests := true, laidLooks := .later }
def TakeTextsUptoCardSaid : Prop := Claim7.holds Tryz.pinned (.plain (OpenSpec.upto takeTextsSpec)) takeTextsUptoCard

/-- THE SECOND FORM's CARD OF 'backlaw1.ScriptTimes'. -/
def scriptTimesUptoCard : Claim7 := { stood := { row := scriptTimesUptoRow, standIns := [], harness := (true, "18f03486f38995eda59a3cb2ca422eda5cf4ea6fbdfb27847a426aef0a2b4742"), looks := true }, kinds := [], alts := [], laidByText := true, laidKinds := [.data, .data, .data, .data, .listed, .data, .pinned], laidTests := true, laidLooks := .later }
def ScriptTimesUptoCardSaid : Prop := Claim7.holds Tryz.pinned (.plain (OpenSpec.upto scriptTimesSpec)) scriptTimesUptoCard

/-- THE SECOND FORM's CARD OF 'backlaw1.ScriptWords'. -/
def scriptWordsUptoCard : Claim7 := { stood := { row := scriptWordsUptoRow, standIns := [], harness := (true, "18f03486f38995eda59a3cb2ca422eda5cf4ea6fbdfb27847a426aef0a2b4742"), looks := true }, kinds := [], alts := [], laidByText := true, laidKinds := [.data, .data, .data, .data, .listed, .data, .pinned], laidTests := true, laidLooks := .later }
def ScriptWordsUptoCardSaid : Prop := Claim7.holds Tryz.pinned (.plain (OpenSpec.upto scriptWordsSpec)) scriptWordsUptoCard

/-- THE SECOND FORM's CARD OF 'backlaw1.ScriptCasts'. -/
def scriptCastsUptoCard : Claim7 := { stood := { row := scriptCastsUptoRow, standIns := [], harness := (true, "18f03486f38995eda59a3cb2ca422eda5cf4ea6fbdfb27847a426aef0a2b4742"), looks := true }, kinds := [], alts := [], laidByText := true, laidKinds := [.data, .data, .data, .data, .listed, .data, .pinned], laidTests := true, laidLooks := .later }
def ScriptCastsUptoCardSaid : Prop := Claim7.holds Tryz.pinned (.plain (OpenSpec.upto scriptCastsSpec)) scriptCastsUptoCard

/-- THE SECOND FORM's CARD OF 'backlaw1.ScriptRenames'. -/
def scriptRenamesUptoCard : Claim7 := { stood := { row := scriptRenamesUptoRow, standIns := [], harness := (true, "18f03486f38995eda59a3cb2ca422eda5cf4ea6fbdfb27847a426aef0a2b4742"), looks := true }, kinds := [], alts := [], laidByText := true, laidKinds := [.data, .data, .data, .data, .listed, .data, .pinned], laidTests := true, laidLooks := .later }
def ScriptRenamesUptoCardSaid : Prop := Claim7.holds Tryz.pinned (.plain (OpenSpec.upto scriptRenamesSpec)) scriptRenamesUptoCard

/-- THE SECOND FORM's CARD OF 'backlaw1.ScriptSides'. -/
def scriptSidesUptoCard : Claim7 := { stood := { row := scriptSidesUptoRow, standIns := [], harness := (true, "18f03486f38995eda59a3cb2ca422eda5cf4ea6fbdfb27847a426aef0a2b4742"), looks := true }, kinds := [], alts := [], laidByText := true, laidKinds := [.data, .data, .data, .data, .listed, .data, .pinned], laidTests := true, laidLooks := .later }
def ScriptSidesUptoCardSaid : Prop := Claim7.holds Tryz.pinned (.plain (OpenSpec.upto scriptSidesSpec)) scriptSidesUptoCard
end Rows
end Go.Proofs.YtihkkaeoijheoaaGreatDoor
