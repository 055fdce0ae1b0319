/- Texts packed: HdB. -/
import Derived.Test.YtojgjejbhcjifaaGreatDoorSm15
import Derived.Test.YtojgjejbhcjifaaGreatDoorSm13
import Derived.Test.YtojgjejbhcjifaaGreatDoorSm01
import Derived.Test.YtojgjejbhcjifaaGreatDoorSm02
import Derived.Test.YtojgjejbhcjifaaGreatDoorSm19
import Derived.Deep.RegionWith
/- A heading read: the program's, walked. -/
namespace Go.Proofs.YtojgjejbhcjifaaGreatDoor
set_option linter.unusedVariables false
open Go.RowKit Go.Sort

abbrev dumR : Rep Int := intR
/-- Private blocks of a call, and nothing below it turned. -/
abbrev PvG (w : World) (P : List (Nat × Array Value × TypeId)) (wx : World) : Prop := BO dumR 3 w [] (.slice none 0 0) P wx
theorem pvStart (w : World) : PvG w [] w := BO.start w
end Go.Proofs.YtojgjejbhcjifaaGreatDoor

