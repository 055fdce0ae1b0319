/- Texts packed: HdA. -/
import Derived.Test.YtmefjkfjpgblcaaGreatDoorSc13
import Derived.Test.YtmefjkfjpgblcaaGreatDoorSc02
import Derived.Test.YtmefjkfjpgblcaaGreatDoorSc01
import Derived.Deep.QuietTactic
import Derived.BigQuiet
import Derived.Deep.DeepCutAuto
import Derived.RegionTactic
/- Headings of scenes: the program's and the reference's, walked. -/
namespace Go.Proofs.YtmefjkfjpgblcaaGreatDoor
set_option linter.unusedVariables false
open Go.RowKit Go.Sort

end Go.Proofs.YtmefjkfjpgblcaaGreatDoor

