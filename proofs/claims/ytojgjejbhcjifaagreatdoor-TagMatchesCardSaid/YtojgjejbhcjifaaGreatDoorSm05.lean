/- Texts packed: EvW, RefB, CodeR, GenD. -/
import Derived.Test.YtojgjejbhcjifaaGreatDoorRows
import Derived.Test.YtojgjejbhcjifaaGreatDoorSm01
import Derived.Test.YtojgjejbhcjifaaGreatDoorSm04
/- The program's error of events, walked. -/
namespace Go.Proofs.YtojgjejbhcjifaaGreatDoor
set_option linter.unusedVariables false
open Go.RowKit

end Go.Proofs.YtojgjejbhcjifaaGreatDoor

/- The reference's functions on rolls and rates. -/
namespace Go.Proofs.YtojgjejbhcjifaaGreatDoor
set_option linter.unusedVariables false
open Go.RowKit

end Go.Proofs.YtojgjejbhcjifaaGreatDoor

/- The reference's codes. -/
namespace Go.Proofs.YtojgjejbhcjifaaGreatDoor
set_option linter.unusedVariables false
open Go.RowKit Go.Sort

end Go.Proofs.YtojgjejbhcjifaaGreatDoor

/- The generator's codes. -/
namespace Go.Proofs.YtojgjejbhcjifaaGreatDoor
set_option linter.unusedVariables false
open Go.RowKit Go.Sort

end Go.Proofs.YtojgjejbhcjifaaGreatDoor

