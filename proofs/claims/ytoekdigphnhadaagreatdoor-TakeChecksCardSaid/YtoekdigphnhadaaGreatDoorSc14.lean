/- Texts packed: LineA. -/
import Derived.Test.YtoekdigphnhadaaGreatDoorSc13
import Derived.Test.YtoekdigphnhadaaGreatDoorSc02
import Derived.RegionTactic
/- Lines of paragraphs: the program's, walked. -/
namespace Go.Proofs.YtoekdigphnhadaaGreatDoor
set_option linter.unusedVariables false
open Go.RowKit

end Go.Proofs.YtoekdigphnhadaaGreatDoor

