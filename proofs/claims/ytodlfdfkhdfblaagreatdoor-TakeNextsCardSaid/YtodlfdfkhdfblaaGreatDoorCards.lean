/-
  DERIVED. GIVEN WITH THE SEED: THE CARDS: each row of YtodlfdfkhdfblaaGreatDoorRows.lean that lists a variable, with what it lists TIED to the program's text (the seventh form; the later family's looks); each row that meets fmt, with fmt's text TOLD by the authors' own Lean function (tested against real Go, not proved from fmt's source: count such statements apart). THE CARD IS WHAT COUNTS. Prove the row's statement (the work); the ties are given (YtodlfdfkhdfblaaGreatDoorTie.lean); close each card by the builder's one call (the guide's Derived/Test/ToyasCard.lean, 'card_holds'). Laid BY PROGRAM, IN A SANDBOX (cutbox-door.mjs). By AI agents, Wed Nov 11 2026. No macro, syntax, notation, axiom, sorry.
-/
import Derived.Test.YtodlfdfkhdfblaaGreatDoorRows
import GoSem.ClaimSeven
namespace Go.Proofs.YtodlfdfkhdfblaaGreatDoor
namespace Rows

/-- THE TIED CARD OF 'backlaw1.EventMakes'. -/
def eventMakesCard : Claim7 := { stood := { row := eventMakesRow, standIns := [], harness := (true, "f1e48044d9cc02f96c6d1db98f40570ee8a30bee29e15d2ca2995c8f58f8cf15"), looks := true }, kinds := [], alts := [], laidByText := true, laidKinds := [.data, .data, .data, .data, .sentinel, .sentinel, .pinned], laidTests := true, laidLooks := .later }
def EventMakesCardSaid : Prop := Claim7.holds Tryz.pinned (.plain (OpenSpec.ofChange eventMakesSpec)) eventMakesCard

/-- THE TIED CARD OF 'backlaw1.TakeNexts'. -/
def takeNextsCard : Claim7 := { stood := { row := takeNextsRow, standIns := [], harness := (true, "f1e48044d9cc02f96c6d1db98f40570ee8a30bee29e15d2ca2995c8f58f8cf15"), looks := true }, kinds := [], alts := [], laidByText := true, laidKinds := [.data, .data, .data, .data, .sentinel, .sentinel, .pinned], laidTests := true, laidLooks := .later }
def TakeNextsCardSaid : Prop := Claim7.holds Tryz.pinned (.plain (OpenSpec.ofChange takeNextsSpec)) takeNextsCard

/-- THE TIED CARD OF 'backlaw1.ScriptHeadings'. -/
def scriptHeadingsCard : Claim7 := { stood := { row := scriptHeadingsRow, standIns := [], harness := (true, "f1e48044d9cc02f96c6d1db98f40570ee8a30bee29e15d2ca2995c8f58f8cf15"), looks := true }, kinds := [], alts := [], laidByText := true, laidKinds := [.data, .listed, .data, .pinned], laidTests := true, laidLooks := .later }
def ScriptHeadingsCardSaid : Prop := Claim7.holds Tryz.pinned (.plain (OpenSpec.ofChange scriptHeadingsSpec)) scriptHeadingsCard

/-- THE TIED CARD OF 'backlaw1.TakeTexts'. -/
def takeTextsCard : Claim7 := { stood := { row := takeTextsRow, standIns := [], harness := (true, "f1e48044d9cc02f96c6d1db98f40570ee8a30bee29e15d2ca2995c8f58f8cf15"), looks := true }, kinds := [], alts := [], laidByText := true, laidKinds := [.data, .data, .data, .data, .sentinel, .sentinel, .pinned], laidTests := true, laidLooks := .later }
def TakeTextsCardSaid : Prop := Claim7.holds Tryz.pinned (.plain (OpenSpec.ofChange takeTextsSpec)) takeTextsCard

/-- THE SECOND FORM's CARD OF 'backlaw1.EventMakes'. -/
def eventMakesUptoCard : Claim7 := { stood := { row := eventMakesUptoRow, standIns := [], harness := (true, "f1e48044d9cc02f96c6d1db98f40570ee8a30bee29e15d2ca2995c8f58f8cf15"), looks := true }, kinds := [], alts := [], laidByText := true, laidKinds := [.data, .data, .data, .data, .sentinel, .sentinel, .pinned], laidTests := true, laidLooks := .later }
def EventMakesUptoCardSaid : Prop := Claim7.holds Tryz.pinned (.plain (OpenSpec.upto eventMakesSpec)) eventMakesUptoCard

/-- THE SECOND FORM's CARD OF 'backlaw1.TakeNexts'. -/
def takeNextsUptoCard : Claim7 := { stood := { row := takeNextsUptoRow, standIns := [], harness := (true, "f1e48044d9cc02f96c6d1db98f40570ee8a30bee29e15d2ca2995c8f58f8cf15"), looks := true }, kinds := [], alts := [], laidByText := true, laidKinds := [.data, .data, .data, .data, .sentinel, .sentinel, .pinned], laidTests := true, laidLooks := .later }
def TakeNextsUptoCardSaid : Prop := Claim7.holds Tryz.pinned (.plain (OpenSpec.upto takeNextsSpec)) takeNextsUptoCard

/-- THE SECOND FORM's CARD OF 'backlaw1.ScriptHeadings'. -/
def scriptHeadingsUptoCard : Claim7 := { stood := { row := scriptHeadingsUptoRow, standIns := [], harness := (true, "f1e48044d9cc02f96c6d1db98f40570ee8a30bee29e15d2ca2995c8f58f8cf15"), looks := true }, kinds := [], alts := [], laidByText := true, laidKinds := [.data, .listed, .data, .pinned], laidTests := true, laidLooks := .later }
def ScriptHeadingsUptoCardSaid : Prop := Claim7.holds Tryz.pinned (.plain (OpenSpec.upto scriptHeadingsSpec)) scriptHeadingsUptoCard

/-- THE SECOND FORM's CARD OF 'backlaw1.TakeTexts'. -/
def takeTextsUptoCard : Claim7 := { stood := { row := takeTextsUptoRow, standIns := [], harness := (true, "f1e48044d9cc02f96c6d1db98f40570ee8a30bee29e15d2ca2995c8f58f8cf15"), looks := true }, kinds := [], alts := [], laidByText := true, laidKinds := [.data, .data, .data, .data, .sentinel, .sentinel, .pinned], laidTests := true, laidLooks := .later }
def TakeTextsUptoCardSaid : Prop := Claim7.holds Tryz.pinned (.plain (OpenSpec.upto takeTextsSpec)) takeTextsUptoCard
end Rows
end Go.Proofs.YtodlfdfkhdfblaaGreatDoor
