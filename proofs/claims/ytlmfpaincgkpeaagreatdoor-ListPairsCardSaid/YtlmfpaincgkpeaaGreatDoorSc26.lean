/- Texts packed: SpB, SpC. -/
import Derived.Test.YtlmfpaincgkpeaaGreatDoorSc02
import Derived.Test.YtlmfpaincgkpeaaGreatDoorSc25
import Derived.Test.YtlmfpaincgkpeaaGreatDoorSc17
import Derived.Test.YtlmfpaincgkpeaaGreatDoorSc19
import Derived.Test.YtlmfpaincgkpeaaGreatDoorSc01
import Derived.Test.YtlmfpaincgkpeaaGreatDoorSc11
import Derived.Deep.QuietTactic
import Derived.BigQuiet
import Derived.Deep.DeepCutAuto
import Derived.RegionTactic
/- The generator's scripts with a change: where they stand. No program in sight. -/
namespace Go.Proofs.YtlmfpaincgkpeaaGreatDoor
set_option linter.unusedVariables false
open Go.RowKit Go.Sort

section
variable {F : Nat → Prop} {w wx wy : World} {sb m k : Nat} {t t' : ByteArray} {l l' : List (Scene × Value)} {v v' : Value} {n n' : Int}
end
end Go.Proofs.YtlmfpaincgkpeaaGreatDoor

/- The generator's scripts with a change, walked. -/
namespace Go.Proofs.YtlmfpaincgkpeaaGreatDoor
set_option linter.unusedVariables false
open Go.RowKit Go.Sort

end Go.Proofs.YtlmfpaincgkpeaaGreatDoor

