/- Texts packed: HeadA. -/
import Derived.Test.YtojgjejbhcjifaaGreatDoorRows
import Derived.Test.YtojgjejbhcjifaaGreatDoorSm01
import Derived.Test.YtojgjejbhcjifaaGreatDoorSm02
import Derived.Test.YtojgjejbhcjifaaGreatDoorSm09
import Derived.RegionTactic
/- Plain texts, names and sets of scenes: the program's tests. -/
namespace Go.Proofs.YtojgjejbhcjifaaGreatDoor
set_option linter.unusedVariables false
open Go.RowKit

end Go.Proofs.YtojgjejbhcjifaaGreatDoor

