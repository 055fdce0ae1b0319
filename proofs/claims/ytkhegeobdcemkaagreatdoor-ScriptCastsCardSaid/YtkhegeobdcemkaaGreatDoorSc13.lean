/- Texts packed: RefC. -/
import Derived.Test.YtkhegeobdcemkaaGreatDoorRows
import Derived.Test.YtkhegeobdcemkaaGreatDoorSc10
/- The reference's checks of rolls. -/
namespace Go.Proofs.YtkhegeobdcemkaaGreatDoor
set_option linter.unusedVariables false
open Go.RowKit

end Go.Proofs.YtkhegeobdcemkaaGreatDoor

