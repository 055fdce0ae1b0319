/- Texts packed: HdB, EqW, EqX, TmW, CopW, SdS, CutP. -/
import Derived.Test.YtoekdigphnhadaaGreatDoorSc18
import Derived.Test.YtoekdigphnhadaaGreatDoorSc16
import Derived.Test.YtoekdigphnhadaaGreatDoorSc02
import Derived.Test.YtoekdigphnhadaaGreatDoorSc05
import Derived.Test.YtoekdigphnhadaaGreatDoorSc01
import Derived.Test.YtoekdigphnhadaaGreatDoorSc22
import Derived.Deep.RegionWith
import Derived.Test.YtoekdigphnhadaaGreatDoorSc11
import Derived.Deep.QuietTactic
import Derived.BigQuiet
import Derived.Test.YtoekdigphnhadaaGreatDoorSc24
import Derived.Test.YtoekdigphnhadaaGreatDoorSc21
import Derived.Test.YtoekdigphnhadaaGreatDoorSc25
import Derived.Test.YtoekdigphnhadaaGreatDoorSc23
/- A heading read: the program's, walked. -/
namespace Go.Proofs.YtoekdigphnhadaaGreatDoor
set_option linter.unusedVariables false
open Go.RowKit Go.Sort

abbrev dumR : Rep Int := intR
/-- Private blocks of a call, and nothing below it turned. -/
abbrev PvG (w : World) (P : List (Nat × Array Value × TypeId)) (wx : World) : Prop := BO dumR 3 w [] (.slice none 0 0) P wx
theorem pvStart (w : World) : PvG w [] w := BO.start w
end Go.Proofs.YtoekdigphnhadaaGreatDoor

/- Lists of paragraphs, scenes, scripts compared. -/
namespace Go.Proofs.YtoekdigphnhadaaGreatDoor
set_option linter.unusedVariables false
open Go.RowKit

instance : DecidableEq Para := fun a b => decidable_of_iff (a.kind = b.kind ∧ a.text = b.text) (by cases a; cases b; simp)
instance : DecidableEq Scene := fun a b => decidable_of_iff (a.no = b.no ∧ a.place = b.place ∧ a.set = b.set ∧ a.time = b.time ∧ a.paras = b.paras) (by cases a; cases b; simp)
instance : DecidableEq Script := fun a b => decidable_of_iff (a.title = b.title ∧ a.scenes = b.scenes) (by cases a; cases b; simp)
end Go.Proofs.YtoekdigphnhadaaGreatDoor

/- Lists of scenes compared by a function. -/
namespace Go.Proofs.YtoekdigphnhadaaGreatDoor
set_option linter.unusedVariables false
open Go.RowKit Go.Sort

end Go.Proofs.YtoekdigphnhadaaGreatDoor

/- The times of day of a script's scenes. -/
namespace Go.Proofs.YtoekdigphnhadaaGreatDoor
set_option linter.unusedVariables false
open Go.RowKit Go.Sort

end Go.Proofs.YtoekdigphnhadaaGreatDoor

/- A copy of a script, with memory of its own. -/
namespace Go.Proofs.YtoekdigphnhadaaGreatDoor
set_option linter.unusedVariables false
open Go.RowKit Go.Sort

section
variable {w wx wy : World} {l : List (Scene × Value)} {v : Value} {P Q : List (Nat × Array Value × TypeId)}
end
end Go.Proofs.YtoekdigphnhadaaGreatDoor

/- The part of one who speaks, in plain words. No program in sight. -/
namespace Go.Proofs.YtoekdigphnhadaaGreatDoor
set_option linter.unusedVariables false
open Go.RowKit

def cueB (nm : ByteArray) (p : Para) : Bool := decide (p.kind = 2) && decide (p.text = nm)
def hcB (ps : List Para) (nm : ByteArray) : Bool := ps.any (cueB nm)
end Go.Proofs.YtoekdigphnhadaaGreatDoor

/- script.Cut walked. -/
namespace Go.Proofs.YtoekdigphnhadaaGreatDoor
set_option linter.unusedVariables false
open Go.RowKit Go.Sort

end Go.Proofs.YtoekdigphnhadaaGreatDoor

