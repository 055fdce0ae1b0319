/- Texts packed: ChkE. -/
import Derived.Test.YtlmfpaincgkpeaaGreatDoorSc11
/- The reference's error of a paragraph. -/
namespace Go.Proofs.YtlmfpaincgkpeaaGreatDoor
set_option linter.unusedVariables false
open Go.RowKit

end Go.Proofs.YtlmfpaincgkpeaaGreatDoor

