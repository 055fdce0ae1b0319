/- Texts packed: RdB. -/
import Derived.Test.YtojgjejbhcjifaaGreatDoorSm19
import Derived.Test.YtojgjejbhcjifaaGreatDoorSm23
/- The reader of scripts: a line of a speech group. -/
namespace Go.Proofs.YtojgjejbhcjifaaGreatDoor
set_option linter.unusedVariables false
open Go.RowKit Go.Sort

end Go.Proofs.YtojgjejbhcjifaaGreatDoor

