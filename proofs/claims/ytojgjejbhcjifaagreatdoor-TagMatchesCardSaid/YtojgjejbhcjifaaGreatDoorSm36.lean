/- Texts packed: RlA, TxA. -/
import Derived.Test.YtojgjejbhcjifaaGreatDoorSm35
import Derived.Test.YtojgjejbhcjifaaGreatDoorSm13
/- The reference's line of a paragraph, walked. -/
namespace Go.Proofs.YtojgjejbhcjifaaGreatDoor
set_option linter.unusedVariables false
open Go.RowKit

end Go.Proofs.YtojgjejbhcjifaaGreatDoor

/- script.Text, walked. -/
namespace Go.Proofs.YtojgjejbhcjifaaGreatDoor
set_option linter.unusedVariables false
open Go.RowKit Go.Sort

end Go.Proofs.YtojgjejbhcjifaaGreatDoor

