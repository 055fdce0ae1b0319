/-
  DERIVED. GIVEN WITH THE SEED: THE CARDS: each row of YtndgdbncfplndaaDoorRows.lean that lists a variable, with what it lists TIED to the program's text (the seventh form; the later family's looks); each row that meets fmt, with fmt's text TOLD by the authors' own Lean function (tested against real Go, not proved from fmt's source: count such statements apart). THE CARD IS WHAT COUNTS. Prove the row's statement (the work); the ties are given (YtndgdbncfplndaaDoorTie.lean); close each card by the builder's one call (the guide's Derived/Test/ToyasCard.lean, 'card_holds'). Laid BY PROGRAM, IN A SANDBOX (cutbox-door.mjs). By AI agents, Wed Nov 11 2026. No macro, syntax, notation, axiom, sorry.
-/
import Derived.Test.YtndgdbncfplndaaDoorRows
import GoSem.ClaimSeven
namespace Go.Proofs.YtndgdbncfplndaaDoor
namespace Rows

/-- THE TIED CARD OF 'backlaw1.TakeSyncs'. -/
def takeSyncsCard : Claim7 := { stood := { row := takeSyncsRow, standIns := [], harness := (true, "9e4f046b67f8d27c67c2d191cc41e1fd9facad51628a4322163df2553df0f86a"), looks := true }, kinds := [], alts := [], laidByText := true, laidKinds := [.data, .data, .data, .data, .pinned], laidTests := true, laidLooks := .later }
def TakeSyncsCardSaid : Prop := Claim7.holds Tryd.pinned (.plain (OpenSpec.ofChange takeSyncsSpec)) takeSyncsCard

/-- THE TIED CARD OF 'backlaw1.TakeFiles'. -/
def takeFilesCard : Claim7 := { stood := { row := takeFilesRow, standIns := [], harness := (true, "9e4f046b67f8d27c67c2d191cc41e1fd9facad51628a4322163df2553df0f86a"), looks := true }, kinds := [], alts := [], laidByText := true, laidKinds := [.data, .data, .data, .data, .pinned], laidTests := true, laidLooks := .later }
def TakeFilesCardSaid : Prop := Claim7.holds Tryd.pinned (.plain (OpenSpec.ofChange takeFilesSpec)) takeFilesCard

/-- THE TIED CARD OF 'backlaw1.TakeCodes'. -/
def takeCodesCard : Claim7 := { stood := { row := takeCodesRow, standIns := [], harness := (true, "9e4f046b67f8d27c67c2d191cc41e1fd9facad51628a4322163df2553df0f86a"), looks := true }, kinds := [], alts := [], laidByText := true, laidKinds := [.data, .data, .data, .data, .sentinel, .sentinel, .pinned], laidTests := true, laidLooks := .later }
def TakeCodesCardSaid : Prop := Claim7.holds Tryd.pinned (.plain (OpenSpec.ofChange takeCodesSpec)) takeCodesCard

/-- THE TIED CARD OF 'backlaw1.TakeSlates'. -/
def takeSlatesCard : Claim7 := { stood := { row := takeSlatesRow, standIns := [], harness := (true, "9e4f046b67f8d27c67c2d191cc41e1fd9facad51628a4322163df2553df0f86a"), looks := true }, kinds := [], alts := [], laidByText := true, laidKinds := [.data, .data, .data, .data, .sentinel, .sentinel, .pinned], laidTests := true, laidLooks := .later }
def TakeSlatesCardSaid : Prop := Claim7.holds Tryd.pinned (.plain (OpenSpec.ofChange takeSlatesSpec)) takeSlatesCard

/-- THE SECOND FORM's CARD OF 'backlaw1.TakeSyncs'. -/
def takeSyncsUptoCard : Claim7 := { stood := { row := takeSyncsUptoRow, standIns := [], harness := (true, "9e4f046b67f8d27c67c2d191cc41e1fd9facad51628a4322163df2553df0f86a"), looks := true }, kinds := [], alts := [], laidByText := true, laidKinds := [.data, .data, .data, .data, .pinned], laidTests := true, laidLooks := .later }
def TakeSyncsUptoCardSaid : Prop := Claim7.holds Tryd.pinned (.plain (OpenSpec.upto takeSyncsSpec)) takeSyncsUptoCard

/-- THE SECOND FORM's CARD OF 'backlaw1.TakeFiles'. -/
def takeFilesUptoCard : Claim7 := { stood := { row := takeFilesUptoRow, standIns := [], harness := (true, "9e4f046b67f8d27c67c2d191cc41e1fd9facad51628a4322163df2553df0f86a"), looks := true }, kinds := [], alts := [], laidByText := true, laidKinds := [.data, .data, .data, .data, .pinned], laidTests := true, laidLooks := .later }
def TakeFilesUptoCardSaid : Prop := Claim7.holds Tryd.pinned (.plain (OpenSpec.upto takeFilesSpec)) takeFilesUptoCard

/-- THE SECOND FORM's CARD OF 'backlaw1.TakeCodes'. -/
def takeCodesUptoCard : Claim7 := { stood := { row := takeCodesUptoRow, standIns := [], harness := (true, "9e4f046b67f8d27c67c2d191cc41e1fd9facad51628a4322163df2553df0f86a"), looks := true }, kinds := [], alts := [], laidByText := true, laidKinds := [.data, .data, .data, .data, .sentinel, .sentinel, .pinned], laidTests := true, laidLooks := .later }
def TakeCodesUptoCardSaid : Prop := Claim7.holds Tryd.pinned (.plain (OpenSpec.upto takeCodesSpec)) takeCodesUptoCard

/-- THE SECOND FORM's CARD OF 'backlaw1.TakeSlates'. -/
def takeSlatesUptoCard : Claim7 := { stood := { row := takeSlatesUptoRow, standIns := [], harness := (true, "9e4f046b67f8d27c67c2d191cc41e1fd9facad51628a4322163df2553df0f86a"), looks := true }, kinds := [], alts := [], laidByText := true, laidKinds := [.data, .data, .data, .data, .sentinel, .sentinel, .pinned], laidTests := true, laidLooks := .later }
def TakeSlatesUptoCardSaid : Prop := Claim7.holds Tryd.pinned (.plain (OpenSpec.upto takeSlatesSpec)) takeSlatesUptoCard
end Rows
end Go.Proofs.YtndgdbncfplndaaDoor
