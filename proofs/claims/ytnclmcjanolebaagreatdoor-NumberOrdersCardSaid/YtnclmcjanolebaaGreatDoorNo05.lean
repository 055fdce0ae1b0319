/- Texts packed: BetwX, RollY. -/
import Derived.Test.YtnclmcjanolebaaGreatDoorNo04
import Derived.Test.YtnclmcjanolebaaGreatDoorNo02
import Derived.Test.YtnclmcjanolebaaGreatDoorNo01
import Derived.Test.YtnclmcjanolebaaGreatDoorRows
/- The reference's number between two others: that it ends, and how long it is. -/
namespace Go.Proofs.YtnclmcjanolebaaGreatDoor
set_option linter.unusedVariables false
open Go.RowKit Go.Sort

end Go.Proofs.YtnclmcjanolebaaGreatDoor

/- The program's checks of rolls. -/
namespace Go.Proofs.YtnclmcjanolebaaGreatDoor
set_option linter.unusedVariables false
open Go.RowKit

end Go.Proofs.YtnclmcjanolebaaGreatDoor

