/- Texts packed: StoryC. -/
import Derived.Test.YtojgjejbhcjifaaGreatDoorSm17
import Derived.Test.YtojgjejbhcjifaaGreatDoorSm01
/- The generator's scripts without numbers. -/
namespace Go.Proofs.YtojgjejbhcjifaaGreatDoor
set_option linter.unusedVariables false
open Go.RowKit Go.Sort

end Go.Proofs.YtojgjejbhcjifaaGreatDoor

