/- Texts packed: SpB, SpC. -/
import Derived.Test.YtnnnmbipmfopmaaGreatDoorSc01
import Derived.Test.YtnnnmbipmfopmaaGreatDoorSc25
import Derived.Test.YtnnnmbipmfopmaaGreatDoorSc17
import Derived.Test.YtnnnmbipmfopmaaGreatDoorSc19
import Derived.Test.YtnnnmbipmfopmaaGreatDoorSc11
import Derived.Deep.QuietTactic
import Derived.BigQuiet
import Derived.Deep.DeepCutAuto
import Derived.RegionTactic
/- The generator's scripts with a change: where they stand. No program in sight. -/
namespace Go.Proofs.YtnnnmbipmfopmaaGreatDoor
set_option linter.unusedVariables false
open Go.RowKit Go.Sort

section
variable {F : Nat → Prop} {w wx wy : World} {sb m k : Nat} {t t' : ByteArray} {l l' : List (Scene × Value)} {v v' : Value} {n n' : Int}
end
end Go.Proofs.YtnnnmbipmfopmaaGreatDoor

/- The generator's scripts with a change, walked. -/
namespace Go.Proofs.YtnnnmbipmfopmaaGreatDoor
set_option linter.unusedVariables false
open Go.RowKit Go.Sort

end Go.Proofs.YtnnnmbipmfopmaaGreatDoor

