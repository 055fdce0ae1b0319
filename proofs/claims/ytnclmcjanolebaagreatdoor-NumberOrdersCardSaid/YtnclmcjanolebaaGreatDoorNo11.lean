/- Texts packed: LineA. -/
import Derived.Test.YtnclmcjanolebaaGreatDoorNo10
import Derived.Test.YtnclmcjanolebaaGreatDoorNo01
import Derived.RegionTactic
/- Lines of paragraphs: the program's, walked. -/
namespace Go.Proofs.YtnclmcjanolebaaGreatDoor
set_option linter.unusedVariables false
open Go.RowKit

end Go.Proofs.YtnclmcjanolebaaGreatDoor

