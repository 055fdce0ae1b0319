/- Texts packed: HeadB. -/
import Derived.Test.YtnnnmbipmfopmaaGreatDoorSc08
import Derived.Test.YtnnnmbipmfopmaaGreatDoorSc02
import Derived.Lib.Join
import Derived.RegionTactic
/- Plain texts and sets of scenes: the reference's tests, and the program's set. -/
namespace Go.Proofs.YtnnnmbipmfopmaaGreatDoor
set_option linter.unusedVariables false
open Go.RowKit

def setB (s : ByteArray) : Bool := proB s 60 ⟨#[39, 46, 45, 47]⟩ && !Lib.contains s.data.toList (⟨#[32, 45, 32]⟩ : ByteArray).data.toList && !Lib.hasSuffix s.data.toList (⟨#[32, 45]⟩ : ByteArray).data.toList
set_option maxHeartbeats 1600000 in
theorem isSet_c (s : ByteArray) (w : World) (hs : s.size ≤ 4000000000) (hm : MaxLaid w) : Calls Tryz.prog 72 #[.string s] w fun e w' => e = .returned (.bool (setB s)) ∧ w = w' := by
  have HP := Lib.hid (proper_c s ⟨#[39, 46, 45, 47]⟩ 60 w hs hm (by omega))
  obtain ⟨⟨m, hm⟩, _⟩ := hm
  have HC := Lib.hid (Tryz.strings_Contains s ⟨#[32, 45, 32]⟩ m w (by omega) hm)
  have HS := Lib.hid (Tryz.strings_HasSuffix s ⟨#[32, 45]⟩ w (by omega))
  have HR := Lib.hid (show setB s = (proB s 60 ⟨#[39, 46, 45, 47]⟩ && !Lib.contains s.data.toList (⟨#[32, 45, 32]⟩ : ByteArray).data.toList && !Lib.hasSuffix s.data.toList (⟨#[32, 45]⟩ : ByteArray).data.toList) from rfl)
  generalize proB s 60 ⟨#[39, 46, 45, 47]⟩ = p1 at *
  generalize Lib.contains s.data.toList (⟨#[32, 45, 32]⟩ : ByteArray).data.toList = p2 at *
  generalize Lib.hasSuffix s.data.toList (⟨#[32, 45]⟩ : ByteArray).data.toList = p3 at *
  clear hm
  go_enter Tryz.func72, Tryz.ntmps72
  cases p1 <;> cases p2
  all_goals
    go_wp2_with (first | (go_at_call 106; refine HP.out.mono ?_; rintro e w' ⟨rfl, rfl⟩) | (go_at_call 60; refine HS.out.mono ?_; rintro e w' ⟨rfl, rfl⟩) | (go_at_call 71; refine HC.out.mono ?_; rintro e w' ⟨rfl, rfl⟩) | fail)
    go_ret
    exact ⟨ret_bool (by rw [HR.out]; simp), rfl⟩
end Go.Proofs.YtnnnmbipmfopmaaGreatDoor

