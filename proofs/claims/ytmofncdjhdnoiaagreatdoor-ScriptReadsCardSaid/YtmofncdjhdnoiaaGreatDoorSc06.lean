/- Texts packed: RollY. -/
import Derived.Test.YtmofncdjhdnoiaaGreatDoorRows
import Derived.Test.YtmofncdjhdnoiaaGreatDoorSc01
/- The program's checks of rolls. -/
namespace Go.Proofs.YtmofncdjhdnoiaaGreatDoor
set_option linter.unusedVariables false
open Go.RowKit

end Go.Proofs.YtmofncdjhdnoiaaGreatDoor

