/- Texts packed: SpB, SpC, StoryD. -/
import Derived.Test.YtnnnmbipmfopmaaGreatDoorSc02
import Derived.Test.YtnnnmbipmfopmaaGreatDoorSc26
import Derived.Test.YtnnnmbipmfopmaaGreatDoorSc18
import Derived.Test.YtnnnmbipmfopmaaGreatDoorSc20
import Derived.Test.YtnnnmbipmfopmaaGreatDoorSc01
import Derived.Test.YtnnnmbipmfopmaaGreatDoorSc12
import Derived.Deep.QuietTactic
import Derived.BigQuiet
import Derived.Deep.DeepCutAuto
import Derived.RegionTactic
import Derived.Deep.RegionWith
import Derived.StillTailTactics
import Derived.Lib.Itoa
import Derived.Lib.ItoaNum
/- The generator's scripts with a change: where they stand. No program in sight. -/
namespace Go.Proofs.YtnnnmbipmfopmaaGreatDoor
set_option linter.unusedVariables false
open Go.RowKit Go.Sort

section
variable {F : Nat → Prop} {w wx wy : World} {sb m k : Nat} {t t' : ByteArray} {l l' : List (Scene × Value)} {v v' : Value} {n n' : Int}
end
end Go.Proofs.YtnnnmbipmfopmaaGreatDoor

/- The generator's scripts with a change, walked. -/
namespace Go.Proofs.YtnnnmbipmfopmaaGreatDoor
set_option linter.unusedVariables false
open Go.RowKit Go.Sort

end Go.Proofs.YtnnnmbipmfopmaaGreatDoor

/- A script whose scenes have got their numbers. -/
namespace Go.Proofs.YtnnnmbipmfopmaaGreatDoor
set_option linter.unusedVariables false
open Go.RowKit Go.Sort

def noOf (k : Nat) : ByteArray := ⟨(Lib.decDigits (k + 1)).toArray⟩
def setNo (z : ByteArray) (x : Scene × Value) : Scene × Value := ({ x.1 with no := z }, x.2)
/-- The first k scenes have their numbers. -/
def numbTo : Nat → List (Scene × Value) → List (Scene × Value)
  | 0, l => l
  | k + 1, l => (numbTo k l).modify k (setNo (noOf k))
theorem numbTo_len (k : Nat) (l : List (Scene × Value)) : (numbTo k l).length = l.length := by
  induction k with
  | zero => rfl
  | succ k ih => rw [numbTo, List.length_modify, ih]

end Go.Proofs.YtnnnmbipmfopmaaGreatDoor

