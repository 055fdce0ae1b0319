/- Texts packed: HdA. -/
import Derived.Test.YtoekdigphnhadaaGreatDoorSc16
import Derived.Test.YtoekdigphnhadaaGreatDoorSc02
import Derived.Test.YtoekdigphnhadaaGreatDoorSc01
import Derived.Deep.QuietTactic
import Derived.BigQuiet
import Derived.Deep.DeepCutAuto
import Derived.RegionTactic
/- Headings of scenes: the program's and the reference's, walked. -/
namespace Go.Proofs.YtoekdigphnhadaaGreatDoor
set_option linter.unusedVariables false
open Go.RowKit Go.Sort

end Go.Proofs.YtoekdigphnhadaaGreatDoor

