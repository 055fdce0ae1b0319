/- Texts packed: SlateW, NumO, BetwW. -/
import Derived.Test.YtnnnmbipmfopmaaGreatDoorRows
import Derived.Test.YtnnnmbipmfopmaaGreatDoorSc03
import Derived.Test.YtnnnmbipmfopmaaGreatDoorSc02
import Derived.Test.YtnnnmbipmfopmaaGreatDoorSc01
import Derived.Deep.DeepCutAuto
import Derived.RegionTactic
/- The program's slates. -/
namespace Go.Proofs.YtnnnmbipmfopmaaGreatDoor
set_option linter.unusedVariables false
open Go.RowKit

end Go.Proofs.YtnnnmbipmfopmaaGreatDoor

/- The reference's numbers of scenes, setups and slates. -/
namespace Go.Proofs.YtnnnmbipmfopmaaGreatDoor
set_option linter.unusedVariables false
open Go.RowKit Go.Sort

theorem numK_le (s : ByteArray) : numK s ≤ s.size := by
  have := (List.takeWhile_prefix (p := digB) (l := s.data.toList)).length_le
  simpa [numK] using this
theorem isEmpty_size (s : ByteArray) : s.toList.isEmpty = decide (s.size = 0) := by
  rw [ByteArray.toList_eq]
  rcases s with ⟨⟨l⟩⟩
  cases l with
  | nil => rfl
  | cons x l =>
    show false = decide ((x :: l).length = 0)
    simp
end Go.Proofs.YtnnnmbipmfopmaaGreatDoor

/- The reference's numbers between two others: that they end, and how long the text is. -/
namespace Go.Proofs.YtnnnmbipmfopmaaGreatDoor
set_option linter.unusedVariables false
open Go.RowKit Go.Sort

/-- The first of some numbers that is not 0. -/
def orI (l : List Int) : Int := (l.find? (fun x => decide (x ≠ 0))).getD 0
set_option maxHeartbeats 1000000 in
theorem orI_c (A : Option Addr) (l : List Int) (c lo : Nat) (w : World) (hr : Rs w lo w.heap.size 1 intc A l) (hl : l.length ≤ 1000000) : Calls Tryz.prog 62 #[.slice A l.length c] w (fun e w' => e = .returned (.int .i64 (orI l)) ∧ w' = w) := by
  have HR := Lib.hid hr
  clear hr
  go_enter Tryz.func62, Tryz.ntmps62
  go_wp2
  go_loop [8, 5] (fun i _ => ∃ k : Nat, k ≤ l.length ∧ i = .int .i64 k ∧ Hid (∀ x ∈ l.take k, decide (x ≠ 0) = false)) (fun i _ => l.length - (intOf i).toNat)
  case atStart => exact ⟨0, by omega, rfl, Lib.hid (by simp)⟩
  case round =>
    obtain ⟨k, hk, rfl, HX⟩ := hrel
    by_cases hlt : k < l.length
    · obtain ⟨b, off, rfl, hb0, hb, hcell⟩ := HR.out.at1 (enc1 := .int .i64) hlt
      by_cases h0 : l[k] = 0
      · rw [h0] at hcell
        go_wp2
        go_round
        case rel => exact ⟨k + 1, by omega, intNum, Lib.hid (take_next (q := fun x => decide (x ≠ 0) = false) hlt HX.out (by simp [h0]))⟩
        all_goals (try (simp [intOf] <;> omega))
      · have HV := Lib.hid (show orI l = l[k] by unfold orI; rw [List.find?_eq_some_iff_getElem.2 ⟨by simpa using h0, k, hlt, rfl, fun j hj => by have := HX.out l[j] (by rw [List.mem_take_iff_getElem]; exact ⟨j, by omega, rfl⟩); simpa using this⟩]; rfl)
        generalize l[k] = z at *
        go_wp2
        go_ret
        exact ⟨by rw [HV.out]; rfl, rfl⟩
    · have HV := Lib.hid (show orI l = 0 by unfold orI; rw [List.find?_eq_none.2 (fun x hx => by have := take_all (q := fun x => decide (x ≠ 0) = false) hlt HX.out x hx; simpa using this)]; rfl)
      go_wp2
      go_ret
      exact ⟨by rw [HV.out]; rfl, rfl⟩

end Go.Proofs.YtnnnmbipmfopmaaGreatDoor

