/- The reference's functions on rolls and rates. -/
import Derived.Test.YtndgdbncfplndaaDoorRows
import Derived.Test.YtndgdbncfplndaaDoorRollY
import Derived.Test.YtndgdbncfplndaaDoorRefA
namespace Go.Proofs.YtndgdbncfplndaaDoor
set_option linter.unusedVariables false
open Go.RowKit

theorem capDig_eq (s : ByteArray) : allB (([65, 66, 67, 68, 69, 70, 71, 72, 73, 74, 75, 76, 77, 78, 79, 80, 81, 82, 83, 84, 85, 86, 87, 88, 89, 90, 48, 49, 50, 51, 52, 53, 54, 55, 56, 57] : List UInt8).contains ·) s = allB capDig s := allB_congr (by decide +kernel) s

set_option maxHeartbeats 400000 in
theorem rollName_c (s : ByteArray) (w : World) (hs : s.size ≤ 140737488355328) : Calls Tryd.prog 86 #[.string s] w fun e w' => e = .returned (.bool (rollNameB s)) ∧ Below w.heap.size w w' := by
  cases h : (decide ((1 : Int) ≤ s.size) && decide ((s.size : Int) ≤ 8)) with
  | true =>
    have H := Lib.hid h
    have HN := Lib.hid (show rollNameB s = allB capDig s by simp at h; simp [rollNameB]; omega)
    clear h
    go_enter Tryd.func86, Tryd.ntmps86
    go_wp2_with fail
    refine (long_c s 1 8 _ hs).mono ?_
    rintro e w' ⟨rfl, rfl⟩
    rw [H.out]
    go_wp2_with fail
    refine (made_c s _ _ hs (by decide) (by decide)).mono ?_
    rintro e w' ⟨rfl, hb⟩
    rw [capDig_eq]
    go_wp2
    go_ret
    exact ⟨ret_bool (by rw [HN.out]), hb⟩
  | false =>
    have H := Lib.hid h
    have HN := Lib.hid (show rollNameB s = false by simp at h; simp [rollNameB]; omega)
    clear h
    go_enter Tryd.func86, Tryd.ntmps86
    go_wp2_with fail
    refine (long_c s 1 8 _ hs).mono ?_
    rintro e w' ⟨rfl, rfl⟩
    rw [H.out]
    go_wp2
    go_ret
    exact ⟨ret_bool (by rw [HN.out]), Below.refl _ _⟩

/-- The numbers of a rate, as the reference has them. -/
def rateV (r : Int) : Value := .tuple #[.int .i64 (countedN r), .int .i64 (framesN r), .int .i64 (numN r), .int .i64 (denN r), .bool (isRateB r)]

theorem results_tmp5 {fn : Func} {t u v x y : Tmp} (h : fn.results = #[.tmp t, .tmp u, .tmp v, .tmp x, .tmp y]) (tmps : Array Value) (P : Program) (w : World) :
    (results fn tmps).run P w = .ok (.tuple #[tmps.getD t undef, tmps.getD u undef, tmps.getD v undef, tmps.getD x undef, tmps.getD y undef]) w := by simp [results, h]

set_option maxHeartbeats 400000 in
theorem rateOf_c (r : Int) (w : World) : Calls Tryd.prog 52 #[.int .i64 r] w fun e w' => e = .returned (.tuple #[.int .i64 (countedN r), .int .i64 (framesN r), .int .i64 (numN r), .int .i64 (denN r), .bool (isRateB r)]) ∧ w = w' := by
  cases h : isRateB r with
  | true =>
    rcases rate_cases h with rfl | rfl | rfl | rfl
    all_goals
      clear h
      go_enter Tryd.func52, Tryd.ntmps52
      go_wp2
      refine bodyPost_ret (results_tmp5 rfl _ _ _) rfl ?_
      exact ⟨rfl, rfl⟩
  | false =>
    have h1 : r ≠ 1 := by rintro rfl; cases h
    have h2 : r ≠ 2 := by rintro rfl; cases h
    have h3 : r ≠ 3 := by rintro rfl; cases h
    have h4 : r ≠ 4 := by rintro rfl; cases h
    have e1 := Lib.hid (show countedN r = 0 by simp [countedN, h1, h2, h3, h4])
    have e2 := Lib.hid (show framesN r = 0 by simp [framesN, h1, h2, h3, h4])
    have e3 := Lib.hid (show numN r = 0 by simp [numN, h1, h2, h3, h4])
    have e4 := Lib.hid (show denN r = 0 by simp [denN, h1, h2, h3, h4])
    clear h
    go_enter Tryd.func52, Tryd.ntmps52
    go_wp2
    refine bodyPost_ret (results_tmp5 rfl _ _ _) rfl ?_
    exact ⟨by rw [e1.out, e2.out, e3.out, e4.out]; rfl, rfl⟩

def rightB (r x : Int) : Bool := isRateB r && decide (0 ≤ x) && decide (x < framesN r)
set_option maxHeartbeats 400000 in
theorem RightFrame_c (r x : Int) (w : World) : Calls Tryd.prog 31 #[.int .i64 r, .int .i64 x] w fun e w' => e = .returned (.bool (rightB r x)) ∧ w = w' := by
  cases h : isRateB r with
  | true =>
    by_cases h0 : 0 ≤ x
    all_goals
      go_enter Tryd.func31, Tryd.ntmps31
      go_wp2_with fail
      refine (rateOf_c r _).mono ?_
      rintro e w' ⟨rfl, rfl⟩
      go_wp2
      go_ret
      exact ⟨ret_bool (by first | (simp [rightB, h, h0]; done) | (simp [rightB, h]; omega)), rfl⟩
  | false =>
    go_enter Tryd.func31, Tryd.ntmps31
    go_wp2_with fail
    refine (rateOf_c r _).mono ?_
    rintro e w' ⟨rfl, rfl⟩
    go_wp2
    go_ret
    exact ⟨ret_bool (by simp [rightB, h]), rfl⟩

set_option maxHeartbeats 400000 in
theorem ConvertOf_c (x f t : Int) (w : World) (hf : isRateB f = true) (ht : isRateB t = true) (hx0 : 0 ≤ x) (hx1 : x < 2592000) :
    Calls Tryd.prog 34 #[.int .i64 x, .int .i64 f, .int .i64 t] w fun e w' => e = .returned (.tuple #[.int .i64 (convN x f t), .bool (decide (convN x f t < framesN t))]) ∧ w = w' := by
  have h1 := num_bd hf
  have h2 := num_bd ht
  have h3 := nd_bd hf ht
  have a1 := mul_bd (a := x) (b := denN f) hx0 (by omega) (show x ≤ 2592000 by omega) h1.2.2.2
  have a2 := mul_bd (a := x * denN f) (b := numN t) a1.1 (by omega) a1.2 h2.2.1
  have a3 := mul_bd (a := numN f) (b := denN t) (by omega) (by omega) h1.2.1 h2.2.2.2
  have a4 : 1 ≤ numN f * denN t := mul_one_le (by omega) (by omega)
  have hc : x * denN f * numN t / (numN f * denN t) = convN x f t := by
    unfold convN upDown
    dsimp only
    obtain ⟨⟨p, hp1⟩, ⟨q, hq1⟩⟩ := gcdI_dvd (numN t * denN f) (denN t * numN f) (by omega) (by omega)
    have hp := gcdI_pos (numN t * denN f) (denN t * numN f) h3.1
    generalize hG : gcdI (numN t * denN f) (denN t * numN f) = G at *
    have e1 : x * denN f * numN t = G * (x * p) := by
      rw [Int.mul_assoc, Int.mul_comm (denN f), hp1, Int.mul_left_comm]
    have e2 : numN f * denN t = G * q := by rw [Int.mul_comm, hq1]
    rw [e1, e2, Int.mul_ediv_mul_of_pos _ _ (by omega)]
    have f1 : numN t * denN f / G = p := by rw [hp1]; exact Int.mul_ediv_cancel_left _ (by omega)
    have f2 : denN t * numN f / G = q := by rw [hq1]; exact Int.mul_ediv_cancel_left _ (by omega)
    rw [f1, f2]
  have h5 : 0 ≤ x * denN f * numN t / (numN f * denN t) := Int.ediv_nonneg a2.1 (by omega)
  have h6 : x * denN f * numN t / (numN f * denN t) ≤ x * denN f * numN t := Int.ediv_le_self _ a2.1
  have hd0 : numN f * denN t ≠ 0 := by omega
  have h7 : 0 ≤ convN x f t := by rw [← hc]; exact h5
  have HC := Lib.hid hc
  have HR := Lib.hid (show rightB t (convN x f t) = decide (convN x f t < framesN t) by simp [rightB, ht, h7])
  clear hc h7 hf ht
  go_enter Tryd.func34, Tryd.ntmps34
  go_wp2_with fail
  refine (rateOf_c f _).mono ?_
  rintro e w' ⟨rfl, rfl⟩
  go_wp2_with fail
  refine (rateOf_c t _).mono ?_
  rintro e w' ⟨rfl, rfl⟩
  go_wp2_with fail
  refine (RightFrame_c t _ _).mono ?_
  rintro e w' ⟨rfl, rfl⟩
  go_wp2
  go_ret2
  exact ⟨by rw [← HR.out, ← HC.out]; rfl, rfl⟩
end Go.Proofs.YtndgdbncfplndaaDoor
