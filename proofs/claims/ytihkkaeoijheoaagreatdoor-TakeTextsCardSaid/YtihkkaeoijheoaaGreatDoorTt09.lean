/- Texts packed: RollY. -/
import Derived.Test.YtihkkaeoijheoaaGreatDoorRows
import Derived.Test.YtihkkaeoijheoaaGreatDoorTt01
import Derived.Test.YtihkkaeoijheoaaGreatDoorTt02
/- The program's checks of rolls. -/
namespace Go.Proofs.YtihkkaeoijheoaaGreatDoor
set_option linter.unusedVariables false
open Go.RowKit

set_option maxHeartbeats 400000 in
theorem isRoll_c (s : ByteArray) (w : World) (hs : s.size ≤ 140737488355328) : Calls Tryz.prog 228 #[.string s] w fun e w' => e = .returned (.bool (rollNameB s)) ∧ w = w' := by
  go_enter Tryz.func228, Tryz.ntmps228
  go_wp2
  go_loop [3, 6] (fun _ i => ∃ k : Nat, k ≤ s.size ∧ i = .int .i64 k ∧ Hid (∀ x ∈ s.data.toList.take k, capDig x = true)) (fun _ i => s.size - (intOf i).toNat)
  case atStart => exact ⟨0, Nat.zero_le _, rfl, by intro x hx; simp at hx⟩
  case round =>
    obtain ⟨k, hk, rfl, HN⟩ := hrel
    by_cases hlt : k < s.size
    · have hu : s[k].toNat < 256 := s[k].toNat_lt
      by_cases hc : 65 ≤ s[k].toNat ∧ s[k].toNat ≤ 90
      · have HC := Lib.hid (show capDig s[k] = true by simp [capDig]; omega)
        go_wp2
        go_round
        case rel => exact ⟨k + 1, by omega, intNum, allB_next hlt HN.out HC.out⟩
        case measure => simp [intOf]; omega
      · by_cases hd : 48 ≤ s[k].toNat ∧ s[k].toNat ≤ 57
        · have HC := Lib.hid (show capDig s[k] = true by simp [capDig]; omega)
          go_wp2
          go_round
          case rel => exact ⟨k + 1, by omega, intNum, allB_next hlt HN.out HC.out⟩
          case measure => simp [intOf]; omega
        · have HC := Lib.hid (show capDig s[k] = false by simp [capDig]; omega)
          go_wp2
          all_goals
            go_ret
            have H := allB_no hlt HC.out
            exact ⟨ret_bool (by simp [rollNameB, H]), rfl⟩
    · have H := allB_yes hlt HN.out
      have HR := Lib.hid (show rollNameB s = decide (1 ≤ s.size ∧ s.size ≤ 8) by simp [rollNameB, H])
      by_cases h1 : 1 ≤ s.size
      · by_cases h8 : s.size ≤ 8
        · have HD := Lib.hid (show rollNameB s = true by rw [HR.out]; simp [h1, h8])
          go_wp2
          go_ret
          exact ⟨ret_bool (by rw [HD.out]; first | rfl | (simp; done) | (simp; omega)), rfl⟩
        · have HD := Lib.hid (show rollNameB s = false by rw [HR.out]; simp [h1, h8])
          go_wp2
          go_ret
          exact ⟨ret_bool (by rw [HD.out]; first | rfl | (simp; done) | (simp; omega)), rfl⟩
      · have HD := Lib.hid (show rollNameB s = false by rw [HR.out]; simp; omega)
        go_wp2
        go_ret
        exact ⟨ret_bool HD.out.symm, rfl⟩

/-- The keys that have been seen. -/
def seenM (pre : List Roll) : List (ByteArray × Value) → Prop := fun m => ∀ s, lk m s = if (pre.any fun y => decide (y.name = s)) = true then some (.bool true) else none
theorem seenM_nil : seenM [] [] := fun s => rfl
theorem seenM_up {pre : List Roll} {m : List (ByteArray × Value)} (h : seenM pre m) (r : Roll) : seenM (pre ++ [r]) (up m r.name (.bool true)) := fun s => by
  rw [lk_up, h s]
  by_cases hs : s = r.name
  · subst hs; simp
  · have : ¬ r.name = s := fun e => hs e.symm
    simp [hs, this]

theorem keyS : PlainKey Tryz.prog 9 Value.string := plainKey_string Tryz.underlying9
theorem zeroB (w : World) : (zeroValue 4).run Tryz.prog w = .ok (.bool false) w := by kernel_rfl

end Go.Proofs.YtihkkaeoijheoaaGreatDoor

