/- Texts packed: BetwX, RollY, EvW, RefB, CodeR, GenD. -/
import Derived.Test.YtlmfpaincgkpeaaGreatDoorSc04
import Derived.Test.YtlmfpaincgkpeaaGreatDoorSc02
import Derived.Test.YtlmfpaincgkpeaaGreatDoorSc01
import Derived.Test.YtlmfpaincgkpeaaGreatDoorRows
/- The reference's number between two others: that it ends, and how long it is. -/
namespace Go.Proofs.YtlmfpaincgkpeaaGreatDoor
set_option linter.unusedVariables false
open Go.RowKit Go.Sort

end Go.Proofs.YtlmfpaincgkpeaaGreatDoor

/- The program's checks of rolls. -/
namespace Go.Proofs.YtlmfpaincgkpeaaGreatDoor
set_option linter.unusedVariables false
open Go.RowKit

end Go.Proofs.YtlmfpaincgkpeaaGreatDoor

/- The program's error of events, walked. -/
namespace Go.Proofs.YtlmfpaincgkpeaaGreatDoor
set_option linter.unusedVariables false
open Go.RowKit

end Go.Proofs.YtlmfpaincgkpeaaGreatDoor

/- The reference's functions on rolls and rates. -/
namespace Go.Proofs.YtlmfpaincgkpeaaGreatDoor
set_option linter.unusedVariables false
open Go.RowKit

end Go.Proofs.YtlmfpaincgkpeaaGreatDoor

/- The reference's codes. -/
namespace Go.Proofs.YtlmfpaincgkpeaaGreatDoor
set_option linter.unusedVariables false
open Go.RowKit Go.Sort

end Go.Proofs.YtlmfpaincgkpeaaGreatDoor

/- The generator's codes. -/
namespace Go.Proofs.YtlmfpaincgkpeaaGreatDoor
set_option linter.unusedVariables false
open Go.RowKit Go.Sort

end Go.Proofs.YtlmfpaincgkpeaaGreatDoor

