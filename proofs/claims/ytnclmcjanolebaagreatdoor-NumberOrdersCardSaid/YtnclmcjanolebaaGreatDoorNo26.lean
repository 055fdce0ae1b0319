/- Texts packed: RdB, RdC, RdD, SpA. -/
import Derived.Test.YtnclmcjanolebaaGreatDoorNo19
import Derived.Test.YtnclmcjanolebaaGreatDoorNo22
import Derived.Test.YtnclmcjanolebaaGreatDoorNo01
import Derived.Test.YtnclmcjanolebaaGreatDoorNo13
import Derived.Test.YtnclmcjanolebaaGreatDoorNo17
import Derived.Test.YtnclmcjanolebaaGreatDoorNo02
/- The reader of scripts: a line of a speech group. -/
namespace Go.Proofs.YtnclmcjanolebaaGreatDoor
set_option linter.unusedVariables false
open Go.RowKit Go.Sort

end Go.Proofs.YtnclmcjanolebaaGreatDoor

/- The reader of scripts: a line behind an empty one. -/
namespace Go.Proofs.YtnclmcjanolebaaGreatDoor
set_option linter.unusedVariables false
open Go.RowKit Go.Sort

end Go.Proofs.YtnclmcjanolebaaGreatDoor

/- The reader of scripts: paragraphs behind an empty line; any line. -/
namespace Go.Proofs.YtnclmcjanolebaaGreatDoor
set_option linter.unusedVariables false
open Go.RowKit Go.Sort

end Go.Proofs.YtnclmcjanolebaaGreatDoor

/- The generator's paragraphs with a change. -/
namespace Go.Proofs.YtnclmcjanolebaaGreatDoor
set_option linter.unusedVariables false
open Go.RowKit Go.Sort

/-- Private blocks beside a stream. -/
abbrev PvS (w : World) (sb : Nat) (P : List (Nat × Array Value × TypeId)) (n : Int) (wx : World) : Prop := GS dumR 3 w sb [] (.slice none 0 0) P n wx
end Go.Proofs.YtnclmcjanolebaaGreatDoor

