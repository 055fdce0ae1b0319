/- Texts packed: RefB. -/
import Derived.Test.YtodlfdfkhdfblaaGreatDoorRows
import Derived.Test.YtodlfdfkhdfblaaGreatDoorTn09
import Derived.Test.YtodlfdfkhdfblaaGreatDoorTn02
/- The reference's functions on rolls and rates. -/
namespace Go.Proofs.YtodlfdfkhdfblaaGreatDoor
set_option linter.unusedVariables false
open Go.RowKit

theorem capDig_eq (s : ByteArray) : allB (([65, 66, 67, 68, 69, 70, 71, 72, 73, 74, 75, 76, 77, 78, 79, 80, 81, 82, 83, 84, 85, 86, 87, 88, 89, 90, 48, 49, 50, 51, 52, 53, 54, 55, 56, 57] : List UInt8).contains ·) s = allB capDig s := allB_congr (by decide +kernel) s

set_option maxHeartbeats 400000 in
theorem rollName_c (s : ByteArray) (w : World) (hs : s.size ≤ 140737488355328) : Calls Tryz.prog 102 #[.string s] w fun e w' => e = .returned (.bool (rollNameB s)) ∧ Below w.heap.size w w' := by
  cases h : (decide ((1 : Int) ≤ s.size) && decide ((s.size : Int) ≤ 8)) with
  | true =>
    have H := Lib.hid h
    have HN := Lib.hid (show rollNameB s = allB capDig s by simp at h; simp [rollNameB]; omega)
    clear h
    go_enter Tryz.func102, Tryz.ntmps102
    go_wp2_with fail
    refine (long_c s 1 8 _ hs).mono ?_
    rintro e w' ⟨rfl, rfl⟩
    rw [H.out]
    go_wp2_with fail
    refine (made_c s _ _ hs (by decide) (by decide)).mono ?_
    rintro e w' ⟨rfl, hb⟩
    rw [capDig_eq]
    go_wp2
    go_ret
    exact ⟨ret_bool (by rw [HN.out]), hb⟩
  | false =>
    have H := Lib.hid h
    have HN := Lib.hid (show rollNameB s = false by simp at h; simp [rollNameB]; omega)
    clear h
    go_enter Tryz.func102, Tryz.ntmps102
    go_wp2_with fail
    refine (long_c s 1 8 _ hs).mono ?_
    rintro e w' ⟨rfl, rfl⟩
    rw [H.out]
    go_wp2
    go_ret
    exact ⟨ret_bool (by rw [HN.out]), Below.refl _ _⟩

/-- The numbers of a rate, as the reference has them. -/
def rateV (r : Int) : Value := .tuple #[.int .i64 (countedN r), .int .i64 (framesN r), .int .i64 (numN r), .int .i64 (denN r), .bool (isRateB r)]

theorem results_tmp5 {fn : Func} {t u v x y : Tmp} (h : fn.results = #[.tmp t, .tmp u, .tmp v, .tmp x, .tmp y]) (tmps : Array Value) (P : Program) (w : World) :
    (results fn tmps).run P w = .ok (.tuple #[tmps.getD t undef, tmps.getD u undef, tmps.getD v undef, tmps.getD x undef, tmps.getD y undef]) w := by simp [results, h]

set_option maxHeartbeats 400000 in
theorem rateOf_c (r : Int) (w : World) : Calls Tryz.prog 124 #[.int .i64 r] w fun e w' => e = .returned (.tuple #[.int .i64 (countedN r), .int .i64 (framesN r), .int .i64 (numN r), .int .i64 (denN r), .bool (isRateB r)]) ∧ w = w' := by
  cases h : isRateB r with
  | true =>
    rcases rate_cases h with rfl | rfl | rfl | rfl
    all_goals
      clear h
      go_enter Tryz.func124, Tryz.ntmps124
      go_wp2
      refine bodyPost_ret (results_tmp5 rfl _ _ _) rfl ?_
      exact ⟨rfl, rfl⟩
  | false =>
    have h1 : r ≠ 1 := by rintro rfl; cases h
    have h2 : r ≠ 2 := by rintro rfl; cases h
    have h3 : r ≠ 3 := by rintro rfl; cases h
    have h4 : r ≠ 4 := by rintro rfl; cases h
    have e1 := Lib.hid (show countedN r = 0 by simp [countedN, h1, h2, h3, h4])
    have e2 := Lib.hid (show framesN r = 0 by simp [framesN, h1, h2, h3, h4])
    have e3 := Lib.hid (show numN r = 0 by simp [numN, h1, h2, h3, h4])
    have e4 := Lib.hid (show denN r = 0 by simp [denN, h1, h2, h3, h4])
    clear h
    go_enter Tryz.func124, Tryz.ntmps124
    go_wp2
    refine bodyPost_ret (results_tmp5 rfl _ _ _) rfl ?_
    exact ⟨by rw [e1.out, e2.out, e3.out, e4.out]; rfl, rfl⟩

def rightB (r x : Int) : Bool := isRateB r && decide (0 ≤ x) && decide (x < framesN r)
set_option maxHeartbeats 400000 in
theorem RightFrame_c (r x : Int) (w : World) : Calls Tryz.prog 127 #[.int .i64 r, .int .i64 x] w fun e w' => e = .returned (.bool (rightB r x)) ∧ w = w' := by
  cases h : isRateB r with
  | true =>
    by_cases h0 : 0 ≤ x
    all_goals
      go_enter Tryz.func127, Tryz.ntmps127
      go_wp2_with fail
      refine (rateOf_c r _).mono ?_
      rintro e w' ⟨rfl, rfl⟩
      go_wp2
      go_ret
      exact ⟨ret_bool (by first | (simp [rightB, h, h0]; done) | (simp [rightB, h]; omega)), rfl⟩
  | false =>
    go_enter Tryz.func127, Tryz.ntmps127
    go_wp2_with fail
    refine (rateOf_c r _).mono ?_
    rintro e w' ⟨rfl, rfl⟩
    go_wp2
    go_ret
    exact ⟨ret_bool (by simp [rightB, h]), rfl⟩

end Go.Proofs.YtodlfdfkhdfblaaGreatDoor

