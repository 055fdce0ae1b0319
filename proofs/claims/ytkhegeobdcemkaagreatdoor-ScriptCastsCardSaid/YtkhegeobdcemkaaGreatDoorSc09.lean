/- Texts packed: RollY. -/
import Derived.Test.YtkhegeobdcemkaaGreatDoorRows
import Derived.Test.YtkhegeobdcemkaaGreatDoorSc01
import Derived.Test.YtkhegeobdcemkaaGreatDoorSc02
/- The program's checks of rolls. -/
namespace Go.Proofs.YtkhegeobdcemkaaGreatDoor
set_option linter.unusedVariables false
open Go.RowKit

/-- The keys that have been seen. -/
def seenM (pre : List Roll) : List (ByteArray × Value) → Prop := fun m => ∀ s, lk m s = if (pre.any fun y => decide (y.name = s)) = true then some (.bool true) else none
theorem seenM_nil : seenM [] [] := fun s => rfl
theorem seenM_up {pre : List Roll} {m : List (ByteArray × Value)} (h : seenM pre m) (r : Roll) : seenM (pre ++ [r]) (up m r.name (.bool true)) := fun s => by
  rw [lk_up, h s]
  by_cases hs : s = r.name
  · subst hs; simp
  · have : ¬ r.name = s := fun e => hs e.symm
    simp [hs, this]

theorem keyS : PlainKey Tryz.prog 9 Value.string := plainKey_string Tryz.underlying9
theorem zeroB (w : World) : (zeroValue 4).run Tryz.prog w = .ok (.bool false) w := by kernel_rfl

end Go.Proofs.YtkhegeobdcemkaaGreatDoor

