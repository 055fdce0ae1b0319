/- Texts packed: LineA. -/
import Derived.Test.YtojgjejbhcjifaaGreatDoorSm10
import Derived.Test.YtojgjejbhcjifaaGreatDoorSm01
import Derived.RegionTactic
/- Lines of paragraphs: the program's, walked. -/
namespace Go.Proofs.YtojgjejbhcjifaaGreatDoor
set_option linter.unusedVariables false
open Go.RowKit

end Go.Proofs.YtojgjejbhcjifaaGreatDoor

