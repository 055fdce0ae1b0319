/- Texts packed: HdB. -/
import Derived.Test.YtojgjejbhcjifaaGreatDoorSc16
import Derived.Test.YtojgjejbhcjifaaGreatDoorSc14
import Derived.Test.YtojgjejbhcjifaaGreatDoorSc01
import Derived.Test.YtojgjejbhcjifaaGreatDoorSc03
import Derived.Test.YtojgjejbhcjifaaGreatDoorSc20
import Derived.Deep.RegionWith
/- A heading read: the program's, walked. -/
namespace Go.Proofs.YtojgjejbhcjifaaGreatDoor
set_option linter.unusedVariables false
open Go.RowKit Go.Sort

abbrev dumR : Rep Int := intR
/-- Private blocks of a call, and nothing below it turned. -/
abbrev PvG (w : World) (P : List (Nat × Array Value × TypeId)) (wx : World) : Prop := BO dumR 3 w [] (.slice none 0 0) P wx
theorem pvStart (w : World) : PvG w [] w := BO.start w
end Go.Proofs.YtojgjejbhcjifaaGreatDoor

