/- The program's ReadCode, and Convert with its errors. -/
import Derived.Test.YtndgdbncfplndaaDoorRows
import Derived.Test.YtndgdbncfplndaaDoorCodeT
import Derived.Test.YtndgdbncfplndaaDoorAtoiW
import Derived.Test.YtndgdbncfplndaaDoorRefB
namespace Go.Proofs.YtndgdbncfplndaaDoor
set_option linter.unusedVariables false
open Go.RowKit Go.Sort

def readE (r : Int) (s : ByteArray) (e : Ending) : Prop := ∃ v ok, readP r s v ok ∧ e = .returned (.tuple #[.int .i64 (bif ok then v else 0), .int .i64 (bif ok then 0 else 9)])
set_option maxHeartbeats 400000 in
theorem ReadCode_c (r : Int) (s : ByteArray) (w : World) (hr : isRateB r = true) (hs : s.size ≤ 140737488355328) :
    Calls Tryd.prog 29 #[.int .i64 r, .string s] w fun e w' => readE r s e ∧ Below w.heap.size w w' := by
  have HR := Lib.hid hr
  go_enter Tryd.func29, Tryd.ntmps29
  go_wp2_with fail
  refine (isRate_c _ _).mono ?_
  rintro e w' ⟨rfl, rfl⟩
  rw [HR.out]
  go_wp2_with fail
  refine (readCode_c r s _ HR.out hs).mono ?_
  rintro e w1 ⟨⟨v, ok, rfl, hp⟩, hb⟩
  have HP := Lib.hid hp; clear hp
  cases ok with
  | true =>
    go_wp2
    go_ret2
    exact ⟨⟨v, true, HP.out, rfl⟩, hb⟩
  | false =>
    go_wp2
    go_ret2
    exact ⟨⟨v, false, HP.out, rfl⟩, hb⟩
set_option maxHeartbeats 400000 in
theorem ReadCode_k (r : Int) (s : ByteArray) (w : World) (hr : isRateB r = false) :
    Calls Tryd.prog 29 #[.int .i64 r, .string s] w fun e w' => e = .returned (.tuple #[.int .i64 0, .int .i64 4]) ∧ w = w' := by
  have HR := Lib.hid hr
  go_enter Tryd.func29, Tryd.ntmps29
  go_wp2_with fail
  refine (isRate_c _ _).mono ?_
  rintro e w' ⟨rfl, rfl⟩
  rw [HR.out]
  go_wp2
  go_ret2
  exact ⟨rfl, rfl⟩
set_option maxHeartbeats 400000 in
theorem Convert_k (x f t : Int) (w : World) (h : isRateB f = false ∨ isRateB t = false) :
    Calls Tryd.prog 30 #[.int .i64 x, .int .i64 f, .int .i64 t] w fun e w' => e = .returned (.tuple #[.int .i64 0, .int .i64 4]) ∧ w = w' := by
  cases hf : isRateB f with
  | false =>
    have HF := Lib.hid hf; clear hf h
    go_enter Tryd.func30, Tryd.ntmps30
    go_wp2_with fail
    refine (isRate_c _ _).mono ?_
    rintro e w' ⟨rfl, rfl⟩
    rw [HF.out]
    go_wp2
    go_ret2
    exact ⟨rfl, rfl⟩
  | true =>
    have ht : isRateB t = false := by rcases h with h | h; (rw [hf] at h; cases h); exact h
    have HF := Lib.hid hf; have HT := Lib.hid ht; clear hf h ht
    go_enter Tryd.func30, Tryd.ntmps30
    go_wp2_with fail
    refine (isRate_c _ _).mono ?_
    rintro e w' ⟨rfl, rfl⟩
    rw [HF.out]
    go_wp2_with fail
    refine (isRate_c _ _).mono ?_
    rintro e w' ⟨rfl, rfl⟩
    rw [HT.out]
    go_wp2
    go_ret2
    exact ⟨rfl, rfl⟩
set_option maxHeartbeats 400000 in
theorem Convert_a (x f t : Int) (w : World) (hf : isRateB f = true) (ht : isRateB t = true) (hx : x < 0 ∨ framesN f ≤ x) :
    Calls Tryd.prog 30 #[.int .i64 x, .int .i64 f, .int .i64 t] w fun e w' => e = .returned (.tuple #[.int .i64 0, .int .i64 1]) ∧ w = w' := by
  have HF := Lib.hid hf; have HT := Lib.hid ht; clear hf ht
  by_cases h0 : x < 0
  · clear hx
    go_enter Tryd.func30, Tryd.ntmps30
    go_wp2_with fail
    refine (isRate_c _ _).mono ?_
    rintro e w' ⟨rfl, rfl⟩
    rw [HF.out]
    go_wp2_with fail
    refine (isRate_c _ _).mono ?_
    rintro e w' ⟨rfl, rfl⟩
    rw [HT.out]
    go_wp2
    go_ret2
    exact ⟨rfl, rfl⟩
  · have h1 : framesN f ≤ x := by omega
    have h2 : 0 ≤ x := by omega
    clear hx h0
    go_enter Tryd.func30, Tryd.ntmps30
    go_wp2_with fail
    refine (isRate_c _ _).mono ?_
    rintro e w' ⟨rfl, rfl⟩
    rw [HF.out]
    go_wp2_with fail
    refine (isRate_c _ _).mono ?_
    rintro e w' ⟨rfl, rfl⟩
    rw [HT.out]
    go_wp2_with fail
    refine (frames_c f _ HF.out).mono ?_
    rintro e w' ⟨rfl, rfl⟩
    go_wp2
    go_ret2
    exact ⟨rfl, rfl⟩
theorem kind_c (r : Int) (w : World) : Calls Tryd.prog 27 #[.int .i64 r] w fun e w' => e = .returned (.int .i64 (bif isRateB r then 0 else 4)) ∧ w = w' := by
  by_cases h1 : r < 1
  · have HB := Lib.hid (show isRateB r = false by simp [isRateB]; omega)
    go_enter Tryd.func27, Tryd.ntmps27
    go_wp2
    go_ret
    exact ⟨by rw [HB.out]; rfl, rfl⟩
  · by_cases h2 : 4 < r
    · have HB := Lib.hid (show isRateB r = false by simp [isRateB]; omega)
      have h1' : 1 ≤ r := by omega
      go_enter Tryd.func27, Tryd.ntmps27
      go_wp2
      go_ret
      exact ⟨by rw [HB.out]; rfl, rfl⟩
    · have HB := Lib.hid (show isRateB r = true by simp [isRateB]; omega)
      have h1' : 1 ≤ r := by omega
      have h2' : r ≤ 4 := by omega
      go_enter Tryd.func27, Tryd.ntmps27
      go_wp2
      go_ret
      exact ⟨by rw [HB.out]; rfl, rfl⟩
end Go.Proofs.YtndgdbncfplndaaDoor
