/- Texts packed: SlateW, NumO. -/
import Derived.Test.YtojgjejbhcjifaaGreatDoorRows
import Derived.Test.YtojgjejbhcjifaaGreatDoorSm02
import Derived.Test.YtojgjejbhcjifaaGreatDoorSm01
/- The program's slates. -/
namespace Go.Proofs.YtojgjejbhcjifaaGreatDoor
set_option linter.unusedVariables false
open Go.RowKit

end Go.Proofs.YtojgjejbhcjifaaGreatDoor

/- The reference's numbers of scenes, setups and slates. -/
namespace Go.Proofs.YtojgjejbhcjifaaGreatDoor
set_option linter.unusedVariables false
open Go.RowKit Go.Sort

end Go.Proofs.YtojgjejbhcjifaaGreatDoor

