/- Texts packed: NextA. -/
import Derived.Test.YtojgjejbhcjifaaGreatDoorRows
import Derived.Test.YtojgjejbhcjifaaGreatDoorSm01
import Derived.Test.YtojgjejbhcjifaaGreatDoorSm05
import Derived.Lib.LazyBuf
import Derived.RegionTactic
/- The setup that comes after another one: the program's, walked. -/
namespace Go.Proofs.YtojgjejbhcjifaaGreatDoor
set_option linter.unusedVariables false
open Go.RowKit

theorem strNums (l : List UInt8) : strOfNums (l.map fun b => (b.toNat : Int)) = ⟨l.toArray⟩ := by
  unfold strOfNums
  rw [List.map_map]
  congr 2
  rw [show ((fun n : Int => UInt8.ofNat n.toNat) ∘ fun b : UInt8 => (b.toNat : Int)) = id from funext fun b => by simp]
  exact List.map_id _
section
variable {w wx wy : World} {B : Nat} {l : List UInt8}
end

end Go.Proofs.YtojgjejbhcjifaaGreatDoor

