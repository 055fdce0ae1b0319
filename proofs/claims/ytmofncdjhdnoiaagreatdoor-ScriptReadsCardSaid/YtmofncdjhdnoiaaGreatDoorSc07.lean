/- Texts packed: EvW, RefB, CodeR, GenD. -/
import Derived.Test.YtmofncdjhdnoiaaGreatDoorRows
import Derived.Test.YtmofncdjhdnoiaaGreatDoorSc01
import Derived.Test.YtmofncdjhdnoiaaGreatDoorSc06
import Derived.Test.YtmofncdjhdnoiaaGreatDoorSc02
/- The program's error of events, walked. -/
namespace Go.Proofs.YtmofncdjhdnoiaaGreatDoor
set_option linter.unusedVariables false
open Go.RowKit

end Go.Proofs.YtmofncdjhdnoiaaGreatDoor

/- The reference's functions on rolls and rates. -/
namespace Go.Proofs.YtmofncdjhdnoiaaGreatDoor
set_option linter.unusedVariables false
open Go.RowKit

end Go.Proofs.YtmofncdjhdnoiaaGreatDoor

/- The reference's codes. -/
namespace Go.Proofs.YtmofncdjhdnoiaaGreatDoor
set_option linter.unusedVariables false
open Go.RowKit Go.Sort

end Go.Proofs.YtmofncdjhdnoiaaGreatDoor

/- The generator's codes. -/
namespace Go.Proofs.YtmofncdjhdnoiaaGreatDoor
set_option linter.unusedVariables false
open Go.RowKit Go.Sort

end Go.Proofs.YtmofncdjhdnoiaaGreatDoor

