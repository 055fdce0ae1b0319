/- Texts packed: RdB, RdC, RdD, SpA. -/
import Derived.Test.YtnnnmbipmfopmaaGreatDoorSc17
import Derived.Test.YtnnnmbipmfopmaaGreatDoorSc20
import Derived.Test.YtnnnmbipmfopmaaGreatDoorSc01
import Derived.Test.YtnnnmbipmfopmaaGreatDoorSc11
import Derived.Test.YtnnnmbipmfopmaaGreatDoorSc15
import Derived.Test.YtnnnmbipmfopmaaGreatDoorSc02
/- The reader of scripts: a line of a speech group. -/
namespace Go.Proofs.YtnnnmbipmfopmaaGreatDoor
set_option linter.unusedVariables false
open Go.RowKit Go.Sort

end Go.Proofs.YtnnnmbipmfopmaaGreatDoor

/- The reader of scripts: a line behind an empty one. -/
namespace Go.Proofs.YtnnnmbipmfopmaaGreatDoor
set_option linter.unusedVariables false
open Go.RowKit Go.Sort

end Go.Proofs.YtnnnmbipmfopmaaGreatDoor

/- The reader of scripts: paragraphs behind an empty line; any line. -/
namespace Go.Proofs.YtnnnmbipmfopmaaGreatDoor
set_option linter.unusedVariables false
open Go.RowKit Go.Sort

end Go.Proofs.YtnnnmbipmfopmaaGreatDoor

/- The generator's paragraphs with a change. -/
namespace Go.Proofs.YtnnnmbipmfopmaaGreatDoor
set_option linter.unusedVariables false
open Go.RowKit Go.Sort

/-- Private blocks beside a stream. -/
abbrev PvS (w : World) (sb : Nat) (P : List (Nat × Array Value × TypeId)) (n : Int) (wx : World) : Prop := GS dumR 3 w sb [] (.slice none 0 0) P n wx
end Go.Proofs.YtnnnmbipmfopmaaGreatDoor

