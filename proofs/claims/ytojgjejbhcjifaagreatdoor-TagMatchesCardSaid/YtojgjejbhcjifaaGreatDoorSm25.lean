/- Texts packed: RdC. -/
import Derived.Test.YtojgjejbhcjifaaGreatDoorSm24
import Derived.Test.YtojgjejbhcjifaaGreatDoorSm01
/- The reader of scripts: a line behind an empty one. -/
namespace Go.Proofs.YtojgjejbhcjifaaGreatDoor
set_option linter.unusedVariables false
open Go.RowKit Go.Sort

end Go.Proofs.YtojgjejbhcjifaaGreatDoor

