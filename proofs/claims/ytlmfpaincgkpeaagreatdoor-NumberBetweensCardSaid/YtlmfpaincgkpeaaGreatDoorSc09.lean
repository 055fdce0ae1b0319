/- Texts packed: RefC. -/
import Derived.Test.YtlmfpaincgkpeaaGreatDoorRows
import Derived.Test.YtlmfpaincgkpeaaGreatDoorSc06
/- The reference's checks of rolls. -/
namespace Go.Proofs.YtlmfpaincgkpeaaGreatDoor
set_option linter.unusedVariables false
open Go.RowKit

end Go.Proofs.YtlmfpaincgkpeaaGreatDoor

