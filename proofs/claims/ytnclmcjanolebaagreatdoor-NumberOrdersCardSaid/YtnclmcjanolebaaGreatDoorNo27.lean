/- Texts packed: SpB, SpC. -/
import Derived.Test.YtnclmcjanolebaaGreatDoorNo01
import Derived.Test.YtnclmcjanolebaaGreatDoorNo26
import Derived.Test.YtnclmcjanolebaaGreatDoorNo19
import Derived.Test.YtnclmcjanolebaaGreatDoorNo21
import Derived.Test.YtnclmcjanolebaaGreatDoorNo13
import Derived.Deep.QuietTactic
import Derived.BigQuiet
import Derived.Deep.DeepCutAuto
import Derived.RegionTactic
/- The generator's scripts with a change: where they stand. No program in sight. -/
namespace Go.Proofs.YtnclmcjanolebaaGreatDoor
set_option linter.unusedVariables false
open Go.RowKit Go.Sort

section
variable {F : Nat → Prop} {w wx wy : World} {sb m k : Nat} {t t' : ByteArray} {l l' : List (Scene × Value)} {v v' : Value} {n n' : Int}
end
end Go.Proofs.YtnclmcjanolebaaGreatDoor

/- The generator's scripts with a change, walked. -/
namespace Go.Proofs.YtnclmcjanolebaaGreatDoor
set_option linter.unusedVariables false
open Go.RowKit Go.Sort

end Go.Proofs.YtnclmcjanolebaaGreatDoor

