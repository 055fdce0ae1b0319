/- Texts packed: ChkE. -/
import Derived.Test.YtojgjejbhcjifaaGreatDoorSm13
/- The reference's error of a paragraph. -/
namespace Go.Proofs.YtojgjejbhcjifaaGreatDoor
set_option linter.unusedVariables false
open Go.RowKit

end Go.Proofs.YtojgjejbhcjifaaGreatDoor

