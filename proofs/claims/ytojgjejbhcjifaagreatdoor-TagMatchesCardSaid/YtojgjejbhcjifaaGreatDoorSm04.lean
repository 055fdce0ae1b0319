/- Texts packed: RollY. -/
import Derived.Test.YtojgjejbhcjifaaGreatDoorRows
import Derived.Test.YtojgjejbhcjifaaGreatDoorSm01
/- The program's checks of rolls. -/
namespace Go.Proofs.YtojgjejbhcjifaaGreatDoor
set_option linter.unusedVariables false
open Go.RowKit

end Go.Proofs.YtojgjejbhcjifaaGreatDoor

