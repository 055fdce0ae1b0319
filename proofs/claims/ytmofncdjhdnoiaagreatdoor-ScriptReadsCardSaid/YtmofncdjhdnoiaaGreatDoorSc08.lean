/- Texts packed: RefC. -/
import Derived.Test.YtmofncdjhdnoiaaGreatDoorRows
import Derived.Test.YtmofncdjhdnoiaaGreatDoorSc07
/- The reference's checks of rolls. -/
namespace Go.Proofs.YtmofncdjhdnoiaaGreatDoor
set_option linter.unusedVariables false
open Go.RowKit

end Go.Proofs.YtmofncdjhdnoiaaGreatDoor

