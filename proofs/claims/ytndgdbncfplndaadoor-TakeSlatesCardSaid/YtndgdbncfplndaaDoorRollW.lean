/- The program's functions on rolls and rates. -/
import Derived.Test.YtndgdbncfplndaaDoorRows
import Derived.Test.YtndgdbncfplndaaDoorMap
import Derived.Test.YtndgdbncfplndaaDoorRollS
import Derived.BigQuiet
import Derived.Deep.RegionWith
import Derived.Deep.QuietTactic
namespace Go.Proofs.YtndgdbncfplndaaDoor
set_option linter.unusedVariables false
open Go.RowKit

set_option maxHeartbeats 400000 in
theorem isRate_c (r : Int) (w : World) : Calls Tryd.prog 64 #[.int .i64 r] w fun e w' => e = .returned (.bool (isRateB r)) ∧ w = w' := by
  by_cases h1 : 1 ≤ r
  · by_cases h2 : r ≤ 4
    · have H := Lib.hid (show isRateB r = true by simp [isRateB]; omega)
      go_enter Tryd.func64, Tryd.ntmps64
      go_wp2
      go_ret
      exact ⟨by rw [H.out]; rfl, rfl⟩
    · have H := Lib.hid (show isRateB r = false by simp [isRateB]; omega)
      go_enter Tryd.func64, Tryd.ntmps64
      go_wp2
      go_ret
      exact ⟨by rw [H.out]; rfl, rfl⟩
  · have H := Lib.hid (show isRateB r = false by simp [isRateB]; omega)
    go_enter Tryd.func64, Tryd.ntmps64
    go_wp2
    go_ret
    exact ⟨by rw [H.out]; rfl, rfl⟩

set_option maxHeartbeats 400000 in
theorem counted_c (r : Int) (w : World) (h : isRateB r = true) : Calls Tryd.prog 101 #[.int .i64 r] w fun e w' => e = .returned (.int .i64 (countedN r)) ∧ w = w' := by
  rcases rate_cases h with rfl | rfl | rfl | rfl
  all_goals
    clear h
    have i1 : ∀ w, (Instr.index 156 (.agg #[.int .i64 0, .int .i64 24, .int .i64 25, .int .i64 30, .int .i64 30]) (.int .i64 1)).run Tryd.prog w = .ok (.int .i64 24) w := fun _ => by kernel_rfl
    have i2 : ∀ w, (Instr.index 156 (.agg #[.int .i64 0, .int .i64 24, .int .i64 25, .int .i64 30, .int .i64 30]) (.int .i64 2)).run Tryd.prog w = .ok (.int .i64 25) w := fun _ => by kernel_rfl
    have i3 : ∀ w, (Instr.index 156 (.agg #[.int .i64 0, .int .i64 24, .int .i64 25, .int .i64 30, .int .i64 30]) (.int .i64 3)).run Tryd.prog w = .ok (.int .i64 30) w := fun _ => by kernel_rfl
    have i4 : ∀ w, (Instr.index 156 (.agg #[.int .i64 0, .int .i64 24, .int .i64 25, .int .i64 30, .int .i64 30]) (.int .i64 4)).run Tryd.prog w = .ok (.int .i64 30) w := fun _ => by kernel_rfl
    go_enter Tryd.func101, Tryd.ntmps101
    go_wp2
    go_ret
    exact ⟨rfl, rfl⟩

set_option maxHeartbeats 400000 in
theorem frames_c (r : Int) (w : World) (h : isRateB r = true) : Calls Tryd.prog 65 #[.int .i64 r] w fun e w' => e = .returned (.int .i64 (framesN r)) ∧ w = w' := by
  rcases rate_cases h with rfl | rfl | rfl | rfl
  all_goals
    clear h
    have e1 : countedN 1 = 24 := rfl
    have e2 : countedN 2 = 25 := rfl
    have e3 : countedN 3 = 30 := rfl
    go_enter Tryd.func65, Tryd.ntmps65
    go_wp2_with (go_at_call 101; refine (counted_c _ _ (by decide)).mono ?_; rintro e w' ⟨rfl, rfl⟩)
    go_ret
    exact ⟨rfl, rfl⟩

set_option maxHeartbeats 400000 in
theorem second_c (r : Int) (w : World) (h : isRateB r = true) : Calls Tryd.prog 84 #[.int .i64 r] w fun e w' => e = .returned (.tuple #[.int .i64 (numN r), .int .i64 (denN r)]) ∧ w = w' := by
  rcases rate_cases h with rfl | rfl | rfl | rfl
  all_goals
    clear h
    have e1 : countedN 1 = 24 := rfl
    have e2 : countedN 2 = 25 := rfl
    have e3 : countedN 3 = 30 := rfl
    go_enter Tryd.func84, Tryd.ntmps84
    go_wp2_with (go_at_call 101; refine (counted_c _ _ (by decide)).mono ?_; rintro e w' ⟨rfl, rfl⟩)
    go_ret2
    exact ⟨rfl, rfl⟩

set_option maxHeartbeats 400000 in
theorem common_c (a b : Int) (w : World) (ha : 0 ≤ a) (hb : 0 ≤ b) (ha2 : a ≤ 1000000000000000) (hb2 : b ≤ 1000000000000000) :
    Calls Tryd.prog 85 #[.int .i64 a, .int .i64 b] w fun e w' => e = .returned (.int .i64 (gcdI a b)) ∧ ∃ n, w' = w.drewN n := by
  go_enter Tryd.func85, Tryd.ntmps85
  go_wp2
  go_loopw [0, 1] (fun u v wr => ∃ x y : Int, 0 ≤ x ∧ 0 ≤ y ∧ x ≤ 1000000000000000 ∧ y ≤ 1000000000000000 ∧ u = .int .i64 x ∧ v = .int .i64 y ∧ gcdI x y = gcdI a b ∧ ∃ n, wr = w.drewN n) (fun _ v _ => (intOf v).toNat)
  case atStart => exact ⟨a, b, ha, hb, ha2, hb2, rfl, rfl, rfl, 0, rfl⟩
  case round =>
    obtain ⟨x, y, hx, hy, hx2, hy2, rfl, rfl, hg, n, rfl⟩ := hrel
    have HG := Lib.hid hg; clear hg
    by_cases h0 : y = 0
    · subst h0
      have H0 := Lib.hid (gcdI_zero x hx)
      go_wp2
      go_ret
      exact ⟨by rw [← HG.out, H0.out]; rfl, n, rfl⟩
    · have h0' : (y != 0) = true := by rw [bne_iff_ne]; omega
      have hm1 := Int.emod_nonneg x h0
      have hm2 := Int.emod_lt_of_pos x (show 0 < y by omega)
      have HS := Lib.hid (gcdI_step x y hx (by omega))
      have h3 : y ≠ 0 := h0
      go_wp2
      go_quiet (fail)
      go_wp2
      go_roundw
      case rel => exact ⟨y, x % y, hy, hm1, hy2, by omega, rfl, rfl, by rw [HS.out, HG.out], _, World.drewN_drewN _ _ _⟩
      case measure => simp [intOf]; omega

set_option maxHeartbeats 400000 in
theorem ratio_c (f t : Int) (w : World) (hf : isRateB f = true) (ht : isRateB t = true) :
    Calls Tryd.prog 48 #[.int .i64 f, .int .i64 t] w fun e w' => e = .returned (.tuple #[.int .i64 (upDown f t).1, .int .i64 (upDown f t).2]) ∧ ∃ n, w' = w.drewN n := by
  have h1 := num_bd hf
  have h2 := num_bd ht
  have h3 := nd_bd hf ht
  have hp := gcdI_pos (numN t * denN f) (denN t * numN f) h3.1
  have e1 := Lib.hid (show upDown f t = (numN t * denN f / gcdI (numN t * denN f) (denN t * numN f), denN t * numN f / gcdI (numN t * denN f) (denN t * numN f)) from rfl)
  have hg0 : gcdI (numN t * denN f) (denN t * numN f) ≠ 0 := by omega
  have HF := Lib.hid hf
  have HT := Lib.hid ht
  clear hf ht
  go_enter Tryd.func48, Tryd.ntmps48
  go_wp2_with fail
  refine (second_c f _ HF.out).mono ?_
  rintro e w' ⟨rfl, rfl⟩
  go_wp2_with fail
  refine (second_c t _ HT.out).mono ?_
  rintro e w' ⟨rfl, rfl⟩
  go_wp2_with fail
  refine (common_c _ _ _ (by omega) (by omega) (by omega) (by omega)).mono ?_
  rintro e w' ⟨rfl, n, rfl⟩
  go_wp2
  go_quiet (fail)
  go_wp2
  go_ret2
  exact ⟨by rw [e1.out]; rfl, _, World.drewN_drewN _ _ _⟩

set_option maxHeartbeats 400000 in
theorem Convert_c (x f t : Int) (w : World) (hf : isRateB f = true) (ht : isRateB t = true) (hx0 : 0 ≤ x) (hx1 : x < framesN f) :
    Calls Tryd.prog 30 #[.int .i64 x, .int .i64 f, .int .i64 t] w fun e w' => e = .returned (.tuple #[.int .i64 (convA x f t), .int .i64 (convE x f t)]) ∧ ∃ n, w' = w.drewN n := by
  have h1 := frames_bd hf
  have h4 := frames_bd ht
  have h2 := ud_bd hf ht
  have h3 := mul_bd (a := x) (b := (upDown f t).1) hx0 (by omega) (show x ≤ 2592000 by omega) h2.2.1
  have h5 : 0 ≤ x * (upDown f t).1 / (upDown f t).2 := Int.ediv_nonneg h3.1 (by omega)
  have h6 : x * (upDown f t).1 / (upDown f t).2 ≤ x * (upDown f t).1 := Int.ediv_le_self _ h3.1
  have hd0 : (upDown f t).2 ≠ 0 := by omega
  have HF := Lib.hid hf
  have HT := Lib.hid ht
  by_cases hc : framesN t ≤ x * (upDown f t).1 / (upDown f t).2
  · have H1 := Lib.hid (show convA x f t = 0 from if_pos hc)
    have H2 := Lib.hid (show convE x f t = 1 from if_pos hc)
    go_enter Tryd.func30, Tryd.ntmps30
    go_wp2_with fail
    refine (isRate_c _ _).mono ?_
    rintro e w' ⟨rfl, rfl⟩
    go_wp2_with fail
    refine (isRate_c _ _).mono ?_
    rintro e w' ⟨rfl, rfl⟩
    go_wp2_with fail
    refine (frames_c f _ HF.out).mono ?_
    rintro e w' ⟨rfl, rfl⟩
    go_wp2_with fail
    refine (ratio_c _ _ _ HF.out HT.out).mono ?_
    rintro e w' ⟨rfl, n, rfl⟩
    go_wp2_with fail
    refine (frames_c t _ HT.out).mono ?_
    rintro e w' ⟨rfl, rfl⟩
    go_wp2
    go_ret2
    exact ⟨by rw [H1.out, H2.out]; rfl, n, rfl⟩
  · have H1 := Lib.hid (show convA x f t = x * (upDown f t).1 / (upDown f t).2 from if_neg hc)
    have H2 := Lib.hid (show convE x f t = 0 from if_neg hc)
    go_enter Tryd.func30, Tryd.ntmps30
    go_wp2_with fail
    refine (isRate_c _ _).mono ?_
    rintro e w' ⟨rfl, rfl⟩
    go_wp2_with fail
    refine (isRate_c _ _).mono ?_
    rintro e w' ⟨rfl, rfl⟩
    go_wp2_with fail
    refine (frames_c f _ HF.out).mono ?_
    rintro e w' ⟨rfl, rfl⟩
    go_wp2_with fail
    refine (ratio_c _ _ _ HF.out HT.out).mono ?_
    rintro e w' ⟨rfl, n, rfl⟩
    go_wp2_with fail
    refine (frames_c t _ HT.out).mono ?_
    rintro e w' ⟨rfl, rfl⟩
    go_wp2
    go_ret2
    exact ⟨by rw [H1.out, H2.out]; rfl, n, rfl⟩

end Go.Proofs.YtndgdbncfplndaaDoor
