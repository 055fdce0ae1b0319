/- Texts packed: LineA. -/
import Derived.Test.YtnnnmbipmfopmaaGreatDoorSc08
import Derived.Test.YtnnnmbipmfopmaaGreatDoorSc01
import Derived.RegionTactic
/- Lines of paragraphs: the program's, walked. -/
namespace Go.Proofs.YtnnnmbipmfopmaaGreatDoor
set_option linter.unusedVariables false
open Go.RowKit

end Go.Proofs.YtnnnmbipmfopmaaGreatDoor

