/- Texts packed: SlateW, NumO. -/
import Derived.Test.YtojgjejbhcjifaaGreatDoorRows
import Derived.Test.YtojgjejbhcjifaaGreatDoorSc03
import Derived.Test.YtojgjejbhcjifaaGreatDoorSc01
/- The program's slates. -/
namespace Go.Proofs.YtojgjejbhcjifaaGreatDoor
set_option linter.unusedVariables false
open Go.RowKit

end Go.Proofs.YtojgjejbhcjifaaGreatDoor

/- The reference's numbers of scenes, setups and slates. -/
namespace Go.Proofs.YtojgjejbhcjifaaGreatDoor
set_option linter.unusedVariables false
open Go.RowKit Go.Sort

theorem cap_set : ([65, 66, 67, 68, 69, 70, 71, 72, 73, 74, 75, 76, 77, 78, 79, 80, 81, 82, 83, 84, 85, 86, 87, 88, 89, 90] : List UInt8).contains = capB := by
  funext c
  exact u8_eq (p := ([65, 66, 67, 68, 69, 70, 71, 72, 73, 74, 75, 76, 77, 78, 79, 80, 81, 82, 83, 84, 85, 86, 87, 88, 89, 90] : List UInt8).contains) (q := capB) (by decide +kernel) c
end Go.Proofs.YtojgjejbhcjifaaGreatDoor

