/- Texts packed: RdB, RdC, RdD, SpA. -/
import Derived.Test.YtlmfpaincgkpeaaGreatDoorSc17
import Derived.Test.YtlmfpaincgkpeaaGreatDoorSc20
import Derived.Test.YtlmfpaincgkpeaaGreatDoorSc01
import Derived.Test.YtlmfpaincgkpeaaGreatDoorSc11
import Derived.Test.YtlmfpaincgkpeaaGreatDoorSc15
import Derived.Test.YtlmfpaincgkpeaaGreatDoorSc02
/- The reader of scripts: a line of a speech group. -/
namespace Go.Proofs.YtlmfpaincgkpeaaGreatDoor
set_option linter.unusedVariables false
open Go.RowKit Go.Sort

end Go.Proofs.YtlmfpaincgkpeaaGreatDoor

/- The reader of scripts: a line behind an empty one. -/
namespace Go.Proofs.YtlmfpaincgkpeaaGreatDoor
set_option linter.unusedVariables false
open Go.RowKit Go.Sort

end Go.Proofs.YtlmfpaincgkpeaaGreatDoor

/- The reader of scripts: paragraphs behind an empty line; any line. -/
namespace Go.Proofs.YtlmfpaincgkpeaaGreatDoor
set_option linter.unusedVariables false
open Go.RowKit Go.Sort

end Go.Proofs.YtlmfpaincgkpeaaGreatDoor

/- The generator's paragraphs with a change. -/
namespace Go.Proofs.YtlmfpaincgkpeaaGreatDoor
set_option linter.unusedVariables false
open Go.RowKit Go.Sort

/-- Private blocks beside a stream. -/
abbrev PvS (w : World) (sb : Nat) (P : List (Nat × Array Value × TypeId)) (n : Int) (wx : World) : Prop := GS dumR 3 w sb [] (.slice none 0 0) P n wx
end Go.Proofs.YtlmfpaincgkpeaaGreatDoor

