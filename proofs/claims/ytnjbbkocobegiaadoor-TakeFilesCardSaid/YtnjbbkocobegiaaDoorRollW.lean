/- The program's functions on rolls and rates. -/
import Derived.Test.YtnjbbkocobegiaaDoorRows
import Derived.Test.YtnjbbkocobegiaaDoorMap
import Derived.Test.YtnjbbkocobegiaaDoorRollS
import Derived.BigQuiet
import Derived.Deep.RegionWith
import Derived.Deep.QuietTactic
namespace Go.Proofs.YtnjbbkocobegiaaDoor
set_option linter.unusedVariables false
open Go.RowKit

set_option maxHeartbeats 400000 in
theorem isRate_c (r : Int) (w : World) : Calls Tryd.prog 45 #[.int .i64 r] w fun e w' => e = .returned (.bool (isRateB r)) ∧ w = w' := by
  by_cases h1 : 1 ≤ r
  · by_cases h2 : r ≤ 4
    · have H := Lib.hid (show isRateB r = true by simp [isRateB]; omega)
      go_enter Tryd.func45, Tryd.ntmps45
      go_wp2
      go_ret
      exact ⟨by rw [H.out]; rfl, rfl⟩
    · have H := Lib.hid (show isRateB r = false by simp [isRateB]; omega)
      go_enter Tryd.func45, Tryd.ntmps45
      go_wp2
      go_ret
      exact ⟨by rw [H.out]; rfl, rfl⟩
  · have H := Lib.hid (show isRateB r = false by simp [isRateB]; omega)
    go_enter Tryd.func45, Tryd.ntmps45
    go_wp2
    go_ret
    exact ⟨by rw [H.out]; rfl, rfl⟩

set_option maxHeartbeats 400000 in
theorem counted_c (r : Int) (w : World) (h : isRateB r = true) : Calls Tryd.prog 69 #[.int .i64 r] w fun e w' => e = .returned (.int .i64 (countedN r)) ∧ w = w' := by
  rcases rate_cases h with rfl | rfl | rfl | rfl
  all_goals
    clear h
    have i1 : ∀ w, (Instr.index 118 (.agg #[.int .i64 0, .int .i64 24, .int .i64 25, .int .i64 30, .int .i64 30]) (.int .i64 1)).run Tryd.prog w = .ok (.int .i64 24) w := fun _ => by kernel_rfl
    have i2 : ∀ w, (Instr.index 118 (.agg #[.int .i64 0, .int .i64 24, .int .i64 25, .int .i64 30, .int .i64 30]) (.int .i64 2)).run Tryd.prog w = .ok (.int .i64 25) w := fun _ => by kernel_rfl
    have i3 : ∀ w, (Instr.index 118 (.agg #[.int .i64 0, .int .i64 24, .int .i64 25, .int .i64 30, .int .i64 30]) (.int .i64 3)).run Tryd.prog w = .ok (.int .i64 30) w := fun _ => by kernel_rfl
    have i4 : ∀ w, (Instr.index 118 (.agg #[.int .i64 0, .int .i64 24, .int .i64 25, .int .i64 30, .int .i64 30]) (.int .i64 4)).run Tryd.prog w = .ok (.int .i64 30) w := fun _ => by kernel_rfl
    go_enter Tryd.func69, Tryd.ntmps69
    go_wp2
    go_ret
    exact ⟨rfl, rfl⟩

set_option maxHeartbeats 400000 in
theorem frames_c (r : Int) (w : World) (h : isRateB r = true) : Calls Tryd.prog 46 #[.int .i64 r] w fun e w' => e = .returned (.int .i64 (framesN r)) ∧ w = w' := by
  rcases rate_cases h with rfl | rfl | rfl | rfl
  all_goals
    clear h
    have e1 : countedN 1 = 24 := rfl
    have e2 : countedN 2 = 25 := rfl
    have e3 : countedN 3 = 30 := rfl
    go_enter Tryd.func46, Tryd.ntmps46
    go_wp2_with (go_at_call 69; refine (counted_c _ _ (by decide)).mono ?_; rintro e w' ⟨rfl, rfl⟩)
    go_ret
    exact ⟨rfl, rfl⟩

end Go.Proofs.YtnjbbkocobegiaaDoor
