/- Texts packed: LineA. -/
import Derived.Test.YtlmfpaincgkpeaaGreatDoorSc08
import Derived.Test.YtlmfpaincgkpeaaGreatDoorSc02
import Derived.RegionTactic
/- Lines of paragraphs: the program's, walked. -/
namespace Go.Proofs.YtlmfpaincgkpeaaGreatDoor
set_option linter.unusedVariables false
open Go.RowKit

end Go.Proofs.YtlmfpaincgkpeaaGreatDoor

