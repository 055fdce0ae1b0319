/- Texts packed: EvL, EvM, PtS, PtA. -/
import Derived.Test.YtoekdigphnhadaaGreatDoorSc11
import Derived.Test.YtoekdigphnhadaaGreatDoorSc01
import Derived.Test.YtoekdigphnhadaaGreatDoorSc04
import Derived.BigQuiet
import Derived.Deep.QuietTactic
import Derived.Deep.RegionHeld3
import Derived.Test.YtoekdigphnhadaaGreatDoorSc02
import Derived.Test.YtoekdigphnhadaaGreatDoorSc06
import Derived.Test.YtoekdigphnhadaaGreatDoorRows
/- The program's reader of an event's line, walked. -/
namespace Go.Proofs.YtoekdigphnhadaaGreatDoor
set_option linter.unusedVariables false
open Go.RowKit Go.Sort

end Go.Proofs.YtoekdigphnhadaaGreatDoor

/- The program's reader of events, walked. -/
namespace Go.Proofs.YtoekdigphnhadaaGreatDoor
set_option linter.unusedVariables false
open Go.RowKit Go.Sort

section
variable {l : List Roll} {t : ByteArray}
end
end Go.Proofs.YtoekdigphnhadaaGreatDoor

/- Takes read from a text, in plain words. No program in sight. -/
namespace Go.Proofs.YtoekdigphnhadaaGreatDoor
set_option linter.unusedVariables false
open Go.RowKit

end Go.Proofs.YtoekdigphnhadaaGreatDoor

/- The program's readers of the lines of takes, walked. -/
namespace Go.Proofs.YtoekdigphnhadaaGreatDoor
set_option linter.unusedVariables false
open Go.RowKit Go.Sort

def Cov.val (x : Cov) : Value := .agg #[.int .i64 x.para, .int .i64 x.tin, .int .i64 x.tout, .bool x.on]
end Go.Proofs.YtoekdigphnhadaaGreatDoor

