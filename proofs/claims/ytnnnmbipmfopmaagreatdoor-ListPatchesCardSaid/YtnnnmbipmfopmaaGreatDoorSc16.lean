/- Texts packed: StoryC. -/
import Derived.Test.YtnnnmbipmfopmaaGreatDoorSc15
import Derived.Test.YtnnnmbipmfopmaaGreatDoorSc01
/- The generator's scripts without numbers. -/
namespace Go.Proofs.YtnnnmbipmfopmaaGreatDoor
set_option linter.unusedVariables false
open Go.RowKit Go.Sort

abbrev svR : Rep (Scene × Value) := Rep.flat 5 (fun x => x.1.cells x.2) (fun _ => rfl)
def xCs (t : ByteArray) (v : Value) : Array Value := #[.string t, v]
end Go.Proofs.YtnnnmbipmfopmaaGreatDoor

