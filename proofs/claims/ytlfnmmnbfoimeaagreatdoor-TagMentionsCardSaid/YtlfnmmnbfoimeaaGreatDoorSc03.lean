/- Texts packed: GenB, CodeT. -/
import Derived.Test.YtlfnmmnbfoimeaaGreatDoorRows
import Derived.Test.YtlfnmmnbfoimeaaGreatDoorSc01
import Derived.Test.YtlfnmmnbfoimeaaGreatDoorSc02
/- The generator's rolls. -/
namespace Go.Proofs.YtlfnmmnbfoimeaaGreatDoor
set_option linter.unusedVariables false
open Go.RowKit

def Roll.put (r : Roll) (j : Nat) (x : Int) : Roll := if j = 1 then { r with rate := x } else if j = 2 then { r with start := x } else if j = 3 then { r with long := x } else { r with drift := x }
end Go.Proofs.YtlfnmmnbfoimeaaGreatDoor

/- The program's reader of codes. -/
namespace Go.Proofs.YtlfnmmnbfoimeaaGreatDoor
set_option linter.unusedVariables false
open Go.RowKit Go.Sort

end Go.Proofs.YtlfnmmnbfoimeaaGreatDoor

