/- Texts packed: TakesW. -/
import Derived.Test.YtnjbbkocobegiaaGreatDoorRows
import Derived.Test.YtnjbbkocobegiaaGreatDoorPe04
import Derived.Test.YtnjbbkocobegiaaGreatDoorPe29
/- The law's own small call: it always holds. -/
namespace Go.Proofs.YtnjbbkocobegiaaGreatDoor
set_option linter.unusedVariables false
open Go.RowKit

theorem dec2 : Lib.decDigits 2 = [50] := by rw [Lib.decDigits, dif_pos (by omega)]; rfl
theorem codeE_x : codeE 4 1800 = 0 := by decide
theorem codeA_x : codeA 4 1800 = ⟨#[48, 48, 58, 48, 49, 58, 48, 48, 59, 48, 50]⟩ := by decide +kernel
theorem slateE_x : slateE ⟨#[49]⟩ ⟨#[65]⟩ 2 = 0 := by decide +kernel
theorem slateA_x : slateA ⟨#[49]⟩ ⟨#[65]⟩ 2 = ⟨#[49, 47, 65, 45, 50]⟩ := by
  unfold slateA
  rw [if_pos slateE_x]
  unfold slateS
  rw [show ((2 : Int).toNat) = 2 from rfl, dec2]
  decide +kernel

set_option maxHeartbeats 400000 in
theorem takes_c (w : World) : Calls Tryz.prog 15 #[] w fun e w' => e = .returned (.bool true) ∧ Below w.heap.size w w' := by
  go_enter Tryz.func15, Tryz.ntmps15
  go_wp2_with fail
  refine (Code_c 4 1800 _).mono ?_
  rintro e w' ⟨rfl, hb⟩
  rw [codeE_x, codeA_x]
  go_wp2_with fail
  refine (Slate_c _ _ 2 _ (by decide) (by decide)).mono ?_
  rintro e w' ⟨rfl, rfl⟩
  rw [slateE_x, slateA_x]
  go_wp2
  go_ret
  exact ⟨rfl, hb⟩
end Go.Proofs.YtnjbbkocobegiaaGreatDoor

