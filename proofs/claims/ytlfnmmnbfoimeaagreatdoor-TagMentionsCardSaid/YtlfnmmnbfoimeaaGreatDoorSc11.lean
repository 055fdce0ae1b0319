/- Texts packed: LineA. -/
import Derived.Test.YtlfnmmnbfoimeaaGreatDoorSc10
import Derived.Test.YtlfnmmnbfoimeaaGreatDoorSc01
import Derived.RegionTactic
/- Lines of paragraphs: the program's, walked. -/
namespace Go.Proofs.YtlfnmmnbfoimeaaGreatDoor
set_option linter.unusedVariables false
open Go.RowKit

end Go.Proofs.YtlfnmmnbfoimeaaGreatDoor

