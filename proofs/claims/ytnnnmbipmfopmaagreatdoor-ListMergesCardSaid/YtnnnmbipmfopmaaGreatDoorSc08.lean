/- Texts packed: RefC. -/
import Derived.Test.YtnnnmbipmfopmaaGreatDoorRows
import Derived.Test.YtnnnmbipmfopmaaGreatDoorSc06
/- The reference's checks of rolls. -/
namespace Go.Proofs.YtnnnmbipmfopmaaGreatDoor
set_option linter.unusedVariables false
open Go.RowKit

end Go.Proofs.YtnnnmbipmfopmaaGreatDoor

