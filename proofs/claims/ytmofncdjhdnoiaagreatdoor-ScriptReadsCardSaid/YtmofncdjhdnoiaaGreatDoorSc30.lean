/- Texts packed: SpA. -/
import Derived.Test.YtmofncdjhdnoiaaGreatDoorSc01
import Derived.Test.YtmofncdjhdnoiaaGreatDoorSc17
import Derived.Test.YtmofncdjhdnoiaaGreatDoorSc23
import Derived.Test.YtmofncdjhdnoiaaGreatDoorSc02
/- The generator's paragraphs with a change. -/
namespace Go.Proofs.YtmofncdjhdnoiaaGreatDoor
set_option linter.unusedVariables false
open Go.RowKit Go.Sort

def pCs (k : Int) (s : ByteArray) : Array Value := #[.int .i64 k, .string s]
end Go.Proofs.YtmofncdjhdnoiaaGreatDoor

