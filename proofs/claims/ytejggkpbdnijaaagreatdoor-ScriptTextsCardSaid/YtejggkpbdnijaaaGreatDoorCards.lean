/-
  DERIVED. GIVEN WITH THE SEED: THE CARDS: each row of YtejggkpbdnijaaaGreatDoorRows.lean that lists a variable, with what it lists TIED to the program's text (the seventh form; the later family's looks); each row that meets fmt, with fmt's text TOLD by the authors' own Lean function (tested against real Go, not proved from fmt's source: count such statements apart). THE CARD IS WHAT COUNTS. Prove the row's statement (the work); the ties are given (YtejggkpbdnijaaaGreatDoorTie.lean); close each card by the builder's one call (the guide's Derived/Test/ToyasCard.lean, 'card_holds'). Laid BY PROGRAM, IN A SANDBOX (cutbox-door.mjs). By AI agents, Wed Nov 11 2026. No macro, syntax, notation, axiom, sorry.
-/
import Derived.Test.YtejggkpbdnijaaaGreatDoorRows
import GoSem.ClaimSeven
namespace Go.Proofs.YtejggkpbdnijaaaGreatDoor
namespace Rows

/-- THE TIED CARD OF 'backlaw1.ScriptHeadings'. -/
def scriptHeadingsCard : Claim7 := { stood := { row := scriptHeadingsRow, standIns := [], harness := (true, "99fe0fe9dcc21af5426fb16d65793f9e7425bb7d2f1552b77ecde18ae08ac917"), looks := true }, kinds := [], alts := [], laidByText := true, laidKinds := [.data, .listed, .data, .pinned], laidTests := true, laidLooks := .later }
def ScriptHeadingsCardSaid : Prop := Claim7.holds Tryz.pinned (.plain (OpenSpec.ofChange scriptHeadingsSpec)) scriptHeadingsCard

/-- THE TIED CARD OF 'backlaw1.TakeTexts'. -/
def takeTextsCard : Claim7 := { stood := { row := takeTextsRow, standIns := [], harness := (true, "99fe0fe9dcc21af5426fb16d65793f9e7425bb7d2f1552b77ecde18ae08ac917"), looks := true }, kinds := [], alts := [], laidByText := true, laidKinds := [.data, .data, .data, .data, .sentinel, .sentinel, .pinned], laidTests := true, laidLooks := .later }
def TakeTextsCardSaid : Prop := Claim7.holds Tryz.pinned (.plain (OpenSpec.ofChange takeTextsSpec)) takeTextsCard

/-- THE TIED CARD OF 'backlaw1.ScriptTexts'. -/
def scriptTextsCard : Claim7 := { stood := { row := scriptTextsRow, standIns := [], harness := (true, "99fe0fe9dcc21af5426fb16d65793f9e7425bb7d2f1552b77ecde18ae08ac917"), looks := true }, kinds := [], alts := [], laidByText := true, laidKinds := [.data, .data, .data, .data, .listed, .data, .pinned], laidTests := true, laidLooks := .later }
def ScriptTextsCardSaid : Prop := Claim7.holds Tryz.pinned (.plain (OpenSpec.ofChange scriptTextsSpec)) scriptTextsCard

/-- THE TIED CARD OF 'backlaw1.ScriptTimes'. -/
def scriptTimesCard : Claim7 := { stood := { row := scriptTimesRow, standIns := [], harness := (true, "99fe0fe9dcc21af5426fb16d65793f9e7425bb7d2f1552b77ecde18ae08ac917"), looks := true }, kinds := [], alts := [], laidByText := true, laidKinds := [.data, .data, .data, .data, .listed, .data, .pinned], laidTests := true, laidLooks := .later }
def ScriptTimesCardSaid : Prop := Claim7.holds Tryz.pinned (.plain (OpenSpec.ofChange scriptTimesSpec)) scriptTimesCard

/-- THE TIED CARD OF 'backlaw1.ScriptCuts'. -/
def scriptCutsCard : Claim7 := { stood := { row := scriptCutsRow, standIns := [], harness := (true, "99fe0fe9dcc21af5426fb16d65793f9e7425bb7d2f1552b77ecde18ae08ac917"), looks := true }, kinds := [], alts := [], laidByText := true, laidKinds := [.data, .data, .data, .data, .listed, .data, .pinned], laidTests := true, laidLooks := .later }
def ScriptCutsCardSaid : Prop := Claim7.holds Tryz.pinned (.plain (OpenSpec.ofChange scriptCutsSpec)) scriptCutsCard

/-- THE SECOND FORM's CARD OF 'backlaw1.ScriptHeadings'. -/
def scriptHeadingsUptoCard : Claim7 := { stood := { row := scriptHeadingsUptoRow, standIns := [], harness := (true, "99fe0fe9dcc21af5426fb16d65793f9e7425bb7d2f1552b77ecde18ae08ac917"), looks := true }, kinds := [], alts := [], laidByText := true, laidKinds := [.data, .listed, .data, .pinned], laidTests := true, laidLooks := .later }
def ScriptHeadingsUptoCardSaid : Prop := Claim7.holds Tryz.pinned (.plain (OpenSpec.upto scriptHeadingsSpec)) scriptHeadingsUptoCard

/-- THE SECOND FORM's CARD OF 'backlaw1.TakeTexts'. -/
def takeTextsUptoCard : Claim7 := { stood := { row := takeTextsUptoRow, standIns := [], harness := (true, "99fe0fe9dcc21af5426fb16d65793f9e7425bb7d2f1552b77ecde18ae08ac917"), looks := true }, kinds := [], alts := [], laidByText := true, laidKinds := [.data, .data, .data, .data, .sentinel, .sentinel, .pinned], laidTests := true, laidLooks := .later }
def TakeTextsUptoCardSaid : Prop := Claim7.holds Tryz.pinned (.plain (OpenSpec.upto takeTextsSpec)) takeTextsUptoCard

/-- THE SECOND FORM's CARD OF 'backlaw1.ScriptTexts'. -/
def scriptTextsUptoCard : Claim7 := { stood := { row := scriptTextsUptoRow, standIns := [], harness := (true, "99fe0fe9dcc21af5426fb16d65793f9e7425bb7d2f1552b77ecde18ae08ac917"), looks := true }, kinds := [], alts := [], laidByText := true, laidKinds := [.data, .data, .data, .data, .listed, .data, .pinned], laidTests := true, laidLooks := .later }
def ScriptTextsUptoCardSaid : Prop := Claim7.holds Tryz.pinned (.plain (OpenSpec.upto scriptTextsSpec)) scriptTextsUptoCard

/-- THE SECOND FORM's CARD OF 'backlaw1.ScriptTimes'. -/
def scriptTimesUptoCard : Claim7 := { stood := { row := scriptTimesUptoRow, standIns := [], harness := (true, "99fe0fe9dcc21af5426fb16d65793f9e7425bb7d2f1552b77ecde18ae08ac917"), looks := true }, kinds := [], alts := [], laidByText := true, laidKinds := [.data, .data, .data, .data, .listed, .data, .pinned], laidTests := true, laidLooks := .later }
def ScriptTimesUptoCardSaid : Prop := Claim7.holds Tryz.pinned (.plain (OpenSpec.upto scriptTimesSpec)) scriptTimesUptoCard

/-- THE SECOND FORM's CARD OF 'backlaw1.ScriptCuts'. -/
def scriptCutsUptoCard : Claim7 := { stood := { row := scriptCutsUptoRow, standIns := [], harness := (true, "99fe0fe9dcc21af5426fb16d65793f9e7425bb7d2f1552b77ecde18ae08ac917"), looks := true }, kinds := [], alts := [], laidByText := true, laidKinds := [.data, .data, .data, .data, .listed, .data, .pinned], laidTests := true, laidLooks := .later }
def ScriptCutsUptoCardSaid : Prop := Claim7.holds Tryz.pinned (.plain (OpenSpec.upto scriptCutsSpec)) scriptCutsUptoCard
end Rows
end Go.Proofs.YtejggkpbdnijaaaGreatDoor
