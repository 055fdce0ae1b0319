/- The program's Sync. -/
import Derived.Test.YtndgdbncfplndaaDoorRows
import Derived.Test.YtndgdbncfplndaaDoorRollY
namespace Go.Proofs.YtndgdbncfplndaaDoor
set_option linter.unusedVariables false
open Go.RowKit

set_option maxHeartbeats 400000 in
theorem on_c (nm : ByteArray) (rate start long drift x : Int) (w : World) (h1 : -10000000 ≤ start) (h2 : start ≤ 10000000) (h3 : -10000000 ≤ long) (h4 : long ≤ 10000000) :
    Calls Tryd.prog 47 #[.agg #[.string nm, .int .i64 rate, .int .i64 start, .int .i64 long, .int .i64 drift], .int .i64 x] w fun e w' => e = .returned (.bool (onB start long x)) ∧ Below w.heap.size w w' := by
  by_cases h : start ≤ x
  all_goals
    go_enter Tryd.func47, Tryd.ntmps47
    go_wp2
    go_ret
    exact ⟨ret_bool (by first | (simp [onB, h]; done) | (simp [onB]; omega)), (Below.refl _ _).alloc (Nat.le_refl _) _⟩

set_option maxHeartbeats 4000000 in
theorem Sync_c (A : Option Addr) (l : List Roll) (c lo : Nat) (sc se roll sound : ByteArray) (no tin tout frame : Int) (good : Bool) (cov : Value) (w : World) (hr : Rs w lo w.heap.size 5 Roll.cells A l) (hlen : l.length ≤ 140737488355328) (hsz : ∀ r ∈ l, r.name.size ≤ 140737488355328)
    (ht1 : -1000000000 ≤ tin) (ht2 : tin ≤ 1000000000) (ht3 : -1000000000 ≤ tout) (ht4 : tout ≤ 1000000000) (ht5 : -1000000000 ≤ frame) (ht6 : frame ≤ 1000000000) :
    Calls Tryd.prog 11 #[.slice A l.length c, .agg #[.string sc, .string se, .int .i64 no, .string roll, .string sound, .int .i64 tin, .int .i64 tout, .bool good, cov], .int .i64 frame] w fun e w' =>
      e = .returned (.tuple #[.int .i64 (syncA l roll sound tin tout frame), .int .i64 (syncE l roll sound tin tout frame)]) ∧ Below w.heap.size w w' := by
  have HR := Lib.hid hr; clear hr
  by_cases hf : rollsFault l = 0
  · have HF := Lib.hid hf
    have HOK := Lib.hid (rollsFault_ok l hf)
    clear hf
    go_enter Tryd.func11, Tryd.ntmps11
    go_wp2_with fail
    refine (CheckRolls_c A l c lo _ ((HR.out.alloc (Nat.le_refl _) _).more (Nat.le_refl _) (by simp)) hlen hsz).mono ?_
    rintro e w1 ⟨rfl, hb1⟩
    rw [HF.out]
    have HB1 := Lib.hid (((Below.refl w.heap.size w).alloc (Nat.le_refl _) _).trans (hb1.mono (by simp)))
    have hzb1 := hb1.size
    obtain ⟨hc1, hf1⟩ := bcell hb1
    simp at hzb1
    have hz1 : w.heap.size < w1.heap.size := by omega
    clear hb1
    go_wp2_with fail
    refine (rollOf_c A l c lo roll w1 ((HR.out.below HB1.out (Nat.le_refl _)).more (Nat.le_refl _) (by omega)) hlen).mono ?_
    rintro e w2 ⟨rfl, hb2⟩
    have HB2 := Lib.hid (HB1.out.trans (hb2.mono (by omega)))
    have hzb2 := hb2.size
    obtain ⟨hc2, hf2⟩ := bcell hb2
    have hz2 : w.heap.size < w2.heap.size := by omega
    clear hb2
    go_wp2_with fail
    refine (rollOf_c A l c lo sound _ (((HR.out.below HB2.out (Nat.le_refl _)).alloc (by omega) _).more (Nat.le_refl _) (by simp; omega)) hlen).mono ?_
    rintro e w3 ⟨rfl, hb3⟩
    have HB3 := Lib.hid ((HB2.out.alloc (by omega) _).trans (hb3.mono (by simp; omega)))
    have hzb3 := hb3.size
    obtain ⟨hc3, hf3⟩ := bcell hb3
    simp at hzb3
    have hz3 : w.heap.size < w3.heap.size := by omega
    have hz3' : w2.heap.size < w3.heap.size := by omega
    clear hb3
    cases h1 : rollHas l roll with
    | false =>
      have E1 := Lib.hid (show syncE l roll sound tin tout frame = 8 by unfold syncE; rw [if_neg (by rw [HF.out]; simp), if_pos h1])
      have E2 := Lib.hid (show syncA l roll sound tin tout frame = 0 by unfold syncA; rw [E1.out]; rfl)
      go_wp2
      go_ret2
      exact ⟨by rw [E1.out, E2.out]; rfl, HB3.out.alloc (by omega) _⟩
    | true =>
    cases h2 : rollHas l sound with
    | false =>
      have E1 := Lib.hid (show syncE l roll sound tin tout frame = 8 by unfold syncE; rw [if_neg (by rw [HF.out]; simp), if_neg (by rw [h1]; simp), if_pos h2])
      have E2 := Lib.hid (show syncA l roll sound tin tout frame = 0 by unfold syncA; rw [E1.out]; rfl)
      go_wp2
      go_ret2
      exact ⟨by rw [E1.out, E2.out]; rfl, HB3.out.alloc (by omega) _⟩
    | true =>
    have SE := Lib.hid (show syncE l roll sound tin tout frame = if frame < tin then 1 else if tout ≤ frame then 1 else if onB (rollGet l roll).start (rollGet l roll).long tin = false then 1 else if onB (rollGet l roll).start (rollGet l roll).long (tout - 1) = false then 1
      else if framesN (rollGet l sound).rate ≤ convN tin (rollGet l roll).rate (rollGet l sound).rate then 1
      else if onB (rollGet l sound).start (rollGet l sound).long (syncN (rollGet l roll) (rollGet l sound) tin frame) = false then 1 else 0 by unfold syncE; rw [if_neg (by rw [HF.out]; simp), if_neg (by rw [h1]; simp), if_neg (by rw [h2]; simp)])
    have SA := Lib.hid (show syncA l roll sound tin tout frame = if syncE l roll sound tin tout frame = 0 then syncN (rollGet l roll) (rollGet l sound) tin frame else 0 from rfl)
    have K1 := HOK.out _ (rollGet_mem h1)
    have K2 := HOK.out _ (rollGet_mem h2)
    generalize rollGet l roll = R at *
    generalize rollGet l sound = S at *
    obtain ⟨kr1, kb1, _⟩ := K1
    obtain ⟨kr2, kb2, _⟩ := K2
    have hF1 := frames_bd kr1
    have hF2 := frames_bd kr2
    simp only [rollBadB, decide_eq_false_iff_not] at kb1 kb2
    have b1 : 0 ≤ R.start ∧ R.start < framesN R.rate ∧ 1 ≤ R.long ∧ R.long ≤ framesN R.rate - R.start := by omega
    have b2 : 0 ≤ S.start ∧ S.start < framesN S.rate ∧ 1 ≤ S.long ∧ S.long ≤ framesN S.rate - S.start ∧ -1000 ≤ S.drift ∧ S.drift ≤ 1000 := by omega
    clear kb1 kb2 h1 h2
    have KR1 := Lib.hid kr1
    have KR2 := Lib.hid kr2
    clear kr1 kr2
    by_cases d1 : frame < tin
    · have E1 := Lib.hid (show syncE l roll sound tin tout frame = 1 by rw [SE.out, if_pos d1])
      have E2 := Lib.hid (show syncA l roll sound tin tout frame = 0 by rw [SA.out, E1.out]; rfl)
      go_wp2
      go_ret2
      exact ⟨by rw [E1.out, E2.out]; rfl, HB3.out.alloc (by omega) _⟩
    by_cases d2 : tout ≤ frame
    · have E1 := Lib.hid (show syncE l roll sound tin tout frame = 1 by rw [SE.out, if_neg (show ¬ frame < tin by omega), if_pos d2])
      have E2 := Lib.hid (show syncA l roll sound tin tout frame = 0 by rw [SA.out, E1.out]; rfl)
      go_wp2
      go_ret2
      exact ⟨by rw [E1.out, E2.out]; rfl, HB3.out.alloc (by omega) _⟩
    go_wp2_with fail
    refine (on_c R.name R.rate R.start R.long R.drift tin _ (by omega) (by omega) (by omega) (by omega)).mono ?_
    rintro e w4 ⟨rfl, hb4⟩
    have HB4 := Lib.hid ((HB3.out.alloc (by omega) _).trans (hb4.mono (by simp; omega)))
    have hzb4 := hb4.size
    obtain ⟨hc4, hf4⟩ := bcell hb4
    simp at hzb4
    have hz4 : w.heap.size < w4.heap.size := by omega
    have hz4' : w2.heap.size < w4.heap.size := by omega
    have hz4'' : w3.heap.size < w4.heap.size := by omega
    clear hb4
    cases d3 : onB R.start R.long tin with
    | false =>
      have E1 := Lib.hid (show syncE l roll sound tin tout frame = 1 by rw [SE.out, if_neg (show ¬ frame < tin by omega), if_neg (show ¬ tout ≤ frame by omega), if_pos d3])
      have E2 := Lib.hid (show syncA l roll sound tin tout frame = 0 by rw [SA.out, E1.out]; rfl)
      go_wp2
      go_ret2
      exact ⟨by rw [E1.out, E2.out]; rfl, HB4.out⟩
    | true =>
    go_wp2_with fail
    refine (on_c R.name R.rate R.start R.long R.drift (tout - 1) _ (by omega) (by omega) (by omega) (by omega)).mono ?_
    rintro e w5 ⟨rfl, hb5⟩
    have HB5 := Lib.hid (HB4.out.trans (hb5.mono (by omega)))
    have hzb5 := hb5.size
    obtain ⟨hc5, hf5⟩ := bcell hb5
    have hz5 : w.heap.size < w5.heap.size := by omega
    have hz5' : w2.heap.size < w5.heap.size := by omega
    have hz5'' : w3.heap.size < w5.heap.size := by omega
    clear hb5
    cases d4 : onB R.start R.long (tout - 1) with
    | false =>
      have E1 := Lib.hid (show syncE l roll sound tin tout frame = 1 by rw [SE.out, if_neg (show ¬ frame < tin by omega), if_neg (show ¬ tout ≤ frame by omega), if_neg (by rw [d3]; simp), if_pos d4])
      have E2 := Lib.hid (show syncA l roll sound tin tout frame = 0 by rw [SA.out, E1.out]; rfl)
      go_wp2
      go_ret2
      exact ⟨by rw [E1.out, E2.out]; rfl, HB5.out⟩
    | true =>
    have SE2 := Lib.hid (show syncE l roll sound tin tout frame = if framesN S.rate ≤ convN tin R.rate S.rate then 1 else if onB S.start S.long (syncN R S tin frame) = false then 1 else 0 by rw [SE.out, if_neg (show ¬ frame < tin by omega), if_neg (show ¬ tout ≤ frame by omega), if_neg (by rw [d3]; simp), if_neg (by rw [d4]; simp)])
    simp only [onB, Bool.and_eq_true, decide_eq_true_eq] at d3 d4
    clear SE
    go_wp2_with fail
    refine (Convert_c tin R.rate S.rate _ KR1.out KR2.out (by omega) (by omega)).mono ?_
    rintro e w6 ⟨rfl, n6, rfl⟩
    by_cases d5 : framesN S.rate ≤ convN tin R.rate S.rate
    · have E1 := Lib.hid (show syncE l roll sound tin tout frame = 1 by rw [SE2.out, if_pos d5])
      have E2 := Lib.hid (show syncA l roll sound tin tout frame = 0 by rw [SA.out, E1.out]; rfl)
      have C1 : convE tin R.rate S.rate = 1 := if_pos d5
      go_wp2
      go_ret2
      exact ⟨by rw [E1.out, E2.out]; rfl, below_drewN HB5.out _⟩
    · have C1 : convE tin R.rate S.rate = 0 := if_neg d5
      have C2 : convA tin R.rate S.rate = convN tin R.rate S.rate := if_neg d5
      have C3 := convN_nonneg KR1.out KR2.out (x := tin) (by omega)
      have C4 := sync_bd (r := R) (s := S) (tin := tin) (frame := frame) KR1.out KR2.out (by omega) (by omega) (by omega) (by omega)
      have SN := Lib.hid (show syncN R S tin frame = convN tin R.rate S.rate + (frame - tin) * (upDown R.rate S.rate).1 * (1000000 + S.drift) / ((upDown R.rate S.rate).2 * 1000000) from rfl)
      go_wp2_with fail
      refine (ratio_c R.rate S.rate _ KR1.out KR2.out).mono ?_
      rintro e w7 ⟨rfl, n7, rfl⟩
      go_wp2_with fail
      refine (on_c S.name S.rate S.start S.long S.drift _ _ (by omega) (by omega) (by omega) (by omega)).mono ?_
      rintro e w8 ⟨rfl, hb8⟩
      have HB8 := Lib.hid ((below_drewN HB5.out (n6 + n7)).trans (hb8.mono (by simp; omega)))
      clear hb8
      have SE3 := Lib.hid (show syncE l roll sound tin tout frame = if onB S.start S.long (syncN R S tin frame) = false then 1 else 0 by rw [SE2.out, if_neg (show ¬ framesN S.rate ≤ convN tin R.rate S.rate by omega)])
      rw [← SN.out]
      cases d6 : onB S.start S.long (syncN R S tin frame) with
      | false =>
        have E1 := Lib.hid (show syncE l roll sound tin tout frame = 1 by rw [SE3.out, if_pos d6])
        have E2 := Lib.hid (show syncA l roll sound tin tout frame = 0 by rw [SA.out, E1.out]; rfl)
        go_wp2
        go_ret2
        exact ⟨by rw [E1.out, E2.out]; rfl, HB8.out⟩
      | true =>
        have E1 := Lib.hid (show syncE l roll sound tin tout frame = 0 by rw [SE3.out, if_neg (by rw [d6]; simp)])
        have E2 := Lib.hid (show syncA l roll sound tin tout frame = syncN R S tin frame by rw [SA.out, E1.out]; rfl)
        go_wp2
        go_ret2
        exact ⟨by rw [E1.out, E2.out]; rfl, HB8.out⟩
  · have H1 := Lib.hid (show syncE l roll sound tin tout frame = rollsFault l from if_pos hf)
    have H2 := Lib.hid (show syncA l roll sound tin tout frame = 0 by unfold syncA; rw [H1.out, if_neg hf])
    have hf' : (rollsFault l != 0) = true := by rw [bne_iff_ne]; exact hf
    go_enter Tryd.func11, Tryd.ntmps11
    go_wp2_with fail
    refine (CheckRolls_c A l c lo _ ((HR.out.alloc (Nat.le_refl _) _).more (Nat.le_refl _) (by simp)) hlen hsz).mono ?_
    rintro e w' ⟨rfl, hb1⟩
    have HB := Lib.hid (((Below.refl w.heap.size w).alloc (Nat.le_refl _) _).trans (hb1.mono (by simp)))
    clear hb1
    go_wp2
    go_ret2
    exact ⟨by rw [H1.out, H2.out]; rfl, HB.out⟩
end Go.Proofs.YtndgdbncfplndaaDoor
