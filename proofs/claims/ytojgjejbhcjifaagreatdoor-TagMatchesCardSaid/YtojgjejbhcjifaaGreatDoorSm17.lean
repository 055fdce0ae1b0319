/- Texts packed: StoryB. -/
import Derived.Test.YtojgjejbhcjifaaGreatDoorSm16
import Derived.Test.YtojgjejbhcjifaaGreatDoorSm01
import Derived.Deep.RegionLaw
/- The generator's scenes. -/
namespace Go.Proofs.YtojgjejbhcjifaaGreatDoor
set_option linter.unusedVariables false
open Go.RowKit Go.Sort

end Go.Proofs.YtojgjejbhcjifaaGreatDoor

