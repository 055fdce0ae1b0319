/- Texts packed: NextA, GrowT, WdW, RefC. -/
import Derived.Test.YtnnnmbipmfopmaaGreatDoorRows
import Derived.Test.YtnnnmbipmfopmaaGreatDoorSc02
import Derived.Test.YtnnnmbipmfopmaaGreatDoorSc01
import Derived.Test.YtnnnmbipmfopmaaGreatDoorSc05
import Derived.Lib.LazyBuf
import Derived.RegionTactic
import Derived.Test.YtnnnmbipmfopmaaGreatDoorSc03
import Derived.Deep.DeepCutAuto
/- The setup that comes after another one: the program's, walked. -/
namespace Go.Proofs.YtnnnmbipmfopmaaGreatDoor
set_option linter.unusedVariables false
open Go.RowKit

section
variable {w wx wy : World} {B : Nat} {l : List UInt8}
end

end Go.Proofs.YtnnnmbipmfopmaaGreatDoor

/- Two flat lists of one's own under way, one of which may begin anew in its row. No program in sight. -/
namespace Go.Proofs.YtnnnmbipmfopmaaGreatDoor
set_option linter.unusedVariables false
open Go.RowKit

section
variable {α β : Type} {n k : Nat} {enc : α → List Value} {hn : ∀ x, (enc x).length = n} {encI : β → List Value} {hk : ∀ x, (encI x).length = k} {e eI : TypeId} {w wx wy : World} {l l' : List α} {v v' : Value} {m m' : List β} {u u' : Value}
end
end Go.Proofs.YtnnnmbipmfopmaaGreatDoor

/- script.Words, walked. -/
namespace Go.Proofs.YtnnnmbipmfopmaaGreatDoor
set_option linter.unusedVariables false
open Go.RowKit

end Go.Proofs.YtnnnmbipmfopmaaGreatDoor

/- The reference's checks of rolls. -/
namespace Go.Proofs.YtnnnmbipmfopmaaGreatDoor
set_option linter.unusedVariables false
open Go.RowKit

end Go.Proofs.YtnnnmbipmfopmaaGreatDoor

