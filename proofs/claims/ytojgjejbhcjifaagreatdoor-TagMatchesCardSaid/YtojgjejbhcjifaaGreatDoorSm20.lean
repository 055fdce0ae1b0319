/- Texts packed: ChkD. -/
import Derived.Test.YtojgjejbhcjifaaGreatDoorSm13
import Derived.Test.YtojgjejbhcjifaaGreatDoorSm01
import Derived.Test.YtojgjejbhcjifaaGreatDoorSm18
import Derived.RegionTactic
/- The program's error of a script. -/
namespace Go.Proofs.YtojgjejbhcjifaaGreatDoor
set_option linter.unusedVariables false
open Go.RowKit Go.Sort

end Go.Proofs.YtojgjejbhcjifaaGreatDoor

