/- Texts packed: WrA. -/
import Derived.Test.YtojgjejbhcjifaaGreatDoorSm01
import Derived.Test.YtojgjejbhcjifaaGreatDoorSm15
import Derived.Test.YtojgjejbhcjifaaGreatDoorSm22
/- A script written: the program's, walked. -/
namespace Go.Proofs.YtojgjejbhcjifaaGreatDoor
set_option linter.unusedVariables false
open Go.RowKit Go.Sort

end Go.Proofs.YtojgjejbhcjifaaGreatDoor

