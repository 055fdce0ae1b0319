/- Texts packed: CodeT. -/
import Derived.Test.YtoekdigphnhadaaGreatDoorRows
import Derived.Test.YtoekdigphnhadaaGreatDoorSc02
import Derived.Test.YtoekdigphnhadaaGreatDoorSc01
import Derived.Test.YtoekdigphnhadaaGreatDoorSc03
/- The program's reader of codes. -/
namespace Go.Proofs.YtoekdigphnhadaaGreatDoor
set_option linter.unusedVariables false
open Go.RowKit Go.Sort

end Go.Proofs.YtoekdigphnhadaaGreatDoor

