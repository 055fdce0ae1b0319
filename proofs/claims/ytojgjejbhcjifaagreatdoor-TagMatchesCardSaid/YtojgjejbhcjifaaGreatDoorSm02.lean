/- Texts packed: NumW. -/
import Derived.Test.YtojgjejbhcjifaaGreatDoorRows
import Derived.Test.YtojgjejbhcjifaaGreatDoorSm01
/- The program's look at the number of a scene. -/
namespace Go.Proofs.YtojgjejbhcjifaaGreatDoor
set_option linter.unusedVariables false
open Go.RowKit

set_option maxHeartbeats 400000 in
theorem isDigit_c (c : UInt8) (w : World) : Calls Tryz.prog 49 #[.int .u8 c.toNat] w fun e w' => e = .returned (.bool (digB c)) ∧ w = w' := by
  have hu : c.toNat < 256 := c.toNat_lt
  by_cases h : 48 ≤ c.toNat
  all_goals
    go_enter Tryz.func49, Tryz.ntmps49
    go_wp2
    go_ret
    exact ⟨ret_bool (by first | (simp [digB, h]; done) | (rw [Bool.eq_iff_iff]; simp [digB]; omega)), rfl⟩
set_option maxHeartbeats 400000 in
theorem isCapital_c (c : UInt8) (w : World) : Calls Tryz.prog 50 #[.int .u8 c.toNat] w fun e w' => e = .returned (.bool (capB c)) ∧ w = w' := by
  have hu : c.toNat < 256 := c.toNat_lt
  by_cases h : 65 ≤ c.toNat
  all_goals
    go_enter Tryz.func50, Tryz.ntmps50
    go_wp2
    go_ret
    exact ⟨ret_bool (by first | (simp [capB, h]; done) | (rw [Bool.eq_iff_iff]; simp [capB]; omega)), rfl⟩

end Go.Proofs.YtojgjejbhcjifaaGreatDoor

