/- The reference's Sync. -/
import Derived.Test.YtndgdbncfplndaaDoorRows
import Derived.Test.YtndgdbncfplndaaDoorRefD
namespace Go.Proofs.YtndgdbncfplndaaDoor
set_option linter.unusedVariables false
open Go.RowKit

set_option maxRecDepth 100000 in
set_option maxHeartbeats 4000000 in
theorem SyncOf_c (A : Option Addr) (l : List Roll) (c lo : Nat) (sc se roll sound : ByteArray) (no tin tout frame : Int) (good : Bool) (cov : Value) (w : World) (hr : Rs w lo w.heap.size 5 Roll.cells A l) (hlen : l.length ≤ c) (hcap : c ≤ 140737488355328) (hsz : ∀ r ∈ l, r.name.size ≤ 140737488355328)
    (ht1 : -1000000000 ≤ tin) (ht2 : tin ≤ 1000000000) (ht3 : -1000000000 ≤ tout) (ht4 : tout ≤ 1000000000) (ht5 : -1000000000 ≤ frame) (ht6 : frame ≤ 1000000000) :
    Calls Tryd.prog 12 #[.slice A l.length c, .agg #[.string sc, .string se, .int .i64 no, .string roll, .string sound, .int .i64 tin, .int .i64 tout, .bool good, cov], .int .i64 frame] w fun e w' =>
      e = .returned (.tuple #[.int .i64 (syncA l roll sound tin tout frame), .int .i64 (syncE l roll sound tin tout frame)]) ∧ Below w.heap.size w w' := by
  have HR := Lib.hid hr; clear hr
  by_cases hf : rollsFault l = 0
  · have HF := Lib.hid hf
    have HOK := Lib.hid (rollsFault_ok l hf)
    have HNM := Lib.hid (fun r hr => (rollsFault_ok l hf r hr).2.2)
    clear hf
    go_enter Tryd.func12, Tryd.ntmps12
    go_wp2_with fail
    refine (RollsFault_c A l c lo _ ((HR.out.alloc (Nat.le_refl _) _).more (Nat.le_refl _) (by simp)) hlen hcap hsz).mono ?_
    rintro e w1 ⟨rfl, hb1⟩
    rw [HF.out]
    have HB1 := Lib.hid (((Below.refl w.heap.size w).alloc (Nat.le_refl _) _).trans (hb1.mono (by simp)))
    have hzb1 := hb1.size
    obtain ⟨hc1, hf1⟩ := bcell hb1
    simp at hzb1
    have hz1 : w.heap.size < w1.heap.size := by omega
    clear hb1
    go_wp2_with fail
    refine (rollOfR_c A l c lo roll w1 ((HR.out.below HB1.out (Nat.le_refl _)).more (Nat.le_refl _) (by omega)) (by omega) HNM.out).mono ?_
    rintro e w2 ⟨rfl, hb2⟩
    have HB2 := Lib.hid (HB1.out.trans (hb2.mono (by omega)))
    have hzb2 := hb2.size
    obtain ⟨hc2, hf2⟩ := bcell hb2
    have hz2 : w.heap.size < w2.heap.size := by omega
    clear hb2
    go_wp2_with fail
    refine (rollOfR_c A l c lo sound _ (((HR.out.below HB2.out (Nat.le_refl _)).alloc (by omega) _).more (Nat.le_refl _) (by simp; omega)) (by omega) HNM.out).mono ?_
    rintro e w3 ⟨rfl, hb3⟩
    have HB3 := Lib.hid ((HB2.out.alloc (by omega) _).trans (hb3.mono (by simp; omega)))
    have hzb3 := hb3.size
    obtain ⟨hc3, hf3⟩ := bcell hb3
    simp at hzb3
    have hz3 : w.heap.size < w3.heap.size := by omega
    have hz3' : w2.heap.size < w3.heap.size := by omega
    clear hb3
    cases h1 : rollHas l roll with
    | false =>
      have E1 := Lib.hid (show syncE l roll sound tin tout frame = 8 by unfold syncE; rw [if_neg (by rw [HF.out]; simp), if_pos h1])
      have E2 := Lib.hid (show syncA l roll sound tin tout frame = 0 by unfold syncA; rw [E1.out]; rfl)
      go_wp2
      go_ret2
      exact ⟨by rw [E1.out, E2.out]; rfl, HB3.out.alloc (by omega) _⟩
    | true =>
    cases h2 : rollHas l sound with
    | false =>
      have E1 := Lib.hid (show syncE l roll sound tin tout frame = 8 by unfold syncE; rw [if_neg (by rw [HF.out]; simp), if_neg (by rw [h1]; simp), if_pos h2])
      have E2 := Lib.hid (show syncA l roll sound tin tout frame = 0 by unfold syncA; rw [E1.out]; rfl)
      go_wp2
      go_ret2
      exact ⟨by rw [E1.out, E2.out]; rfl, HB3.out.alloc (by omega) _⟩
    | true =>
    have SE := Lib.hid (show syncE l roll sound tin tout frame = if frame < tin then 1 else if tout ≤ frame then 1 else if onB (rollGet l roll).start (rollGet l roll).long tin = false then 1 else if onB (rollGet l roll).start (rollGet l roll).long (tout - 1) = false then 1
      else if framesN (rollGet l sound).rate ≤ convN tin (rollGet l roll).rate (rollGet l sound).rate then 1
      else if onB (rollGet l sound).start (rollGet l sound).long (syncN (rollGet l roll) (rollGet l sound) tin frame) = false then 1 else 0 by unfold syncE; rw [if_neg (by rw [HF.out]; simp), if_neg (by rw [h1]; simp), if_neg (by rw [h2]; simp)])
    have SA := Lib.hid (show syncA l roll sound tin tout frame = if syncE l roll sound tin tout frame = 0 then syncN (rollGet l roll) (rollGet l sound) tin frame else 0 from rfl)
    have K1 := HOK.out _ (rollGet_mem h1)
    have K2 := HOK.out _ (rollGet_mem h2)
    generalize rollGet l roll = R at *
    generalize rollGet l sound = S at *
    obtain ⟨kr1, kb1, _⟩ := K1
    obtain ⟨kr2, kb2, _⟩ := K2
    have hF1 := frames_bd kr1
    have hF2 := frames_bd kr2
    simp only [rollBadB, decide_eq_false_iff_not] at kb1 kb2
    have b1 : 0 ≤ R.start ∧ R.start < framesN R.rate ∧ 1 ≤ R.long ∧ R.long ≤ framesN R.rate - R.start := by omega
    have b2 : 0 ≤ S.start ∧ S.start < framesN S.rate ∧ 1 ≤ S.long ∧ S.long ≤ framesN S.rate - S.start ∧ -1000 ≤ S.drift ∧ S.drift ≤ 1000 := by omega
    clear kb1 kb2 h1 h2
    have KR1 := Lib.hid kr1
    have KR2 := Lib.hid kr2
    clear kr1 kr2
    have L1 : R.start + R.long - 1 = R.start + R.long - 1 := rfl
    clear L1
    by_cases d1 : frame < tin
    · have E1 := Lib.hid (show syncE l roll sound tin tout frame = 1 by rw [SE.out, if_pos d1])
      have E2 := Lib.hid (show syncA l roll sound tin tout frame = 0 by rw [SA.out, E1.out]; rfl)
      go_wp2
      go_ret2
      exact ⟨by rw [E1.out, E2.out]; rfl, (HB3.out.alloc (by omega) _).alloc (by simp; omega) _⟩
    by_cases d2 : tout ≤ frame
    · have E1 := Lib.hid (show syncE l roll sound tin tout frame = 1 by rw [SE.out, if_neg d1, if_pos d2])
      have E2 := Lib.hid (show syncA l roll sound tin tout frame = 0 by rw [SA.out, E1.out]; rfl)
      go_wp2
      go_ret2
      exact ⟨by rw [E1.out, E2.out]; rfl, (HB3.out.alloc (by omega) _).alloc (by simp; omega) _⟩
    have I1 : insB R.start (R.start + R.long - 1) tin = onB R.start R.long tin := by unfold insB onB; congr 1; simp; omega
    have I2 : insB R.start (R.start + R.long - 1) (tout - 1) = onB R.start R.long (tout - 1) := by unfold insB onB; congr 1; simp; omega
    have J1 := Lib.hid I1
    have J2 := Lib.hid I2
    clear I1 I2
    go_wp2_with fail
    refine (SyncOf1_c tin R.start (R.start + R.long - 1) _ _ _ (by go_simp) (by go_simp)).mono ?_
    rintro e w4 ⟨rfl, rfl⟩
    rw [J1.out]
    cases d3 : onB R.start R.long tin with
    | false =>
      have E1 := Lib.hid (show syncE l roll sound tin tout frame = 1 by rw [SE.out, if_neg (show ¬ frame < tin by omega), if_neg (show ¬ tout ≤ frame by omega), if_pos d3])
      have E2 := Lib.hid (show syncA l roll sound tin tout frame = 0 by rw [SA.out, E1.out]; rfl)
      go_wp2
      go_ret2
      exact ⟨by rw [E1.out, E2.out]; rfl, (HB3.out.alloc (by omega) _).alloc (by simp; omega) _⟩
    | true =>
    go_wp2_with fail
    refine (SyncOf1_c (tout - 1) R.start (R.start + R.long - 1) _ _ _ (by go_simp) (by go_simp)).mono ?_
    rintro e w4 ⟨rfl, rfl⟩
    rw [J2.out]
    cases d4 : onB R.start R.long (tout - 1) with
    | false =>
      have E1 := Lib.hid (show syncE l roll sound tin tout frame = 1 by rw [SE.out, if_neg (show ¬ frame < tin by omega), if_neg (show ¬ tout ≤ frame by omega), if_neg (by rw [d3]; simp), if_pos d4])
      have E2 := Lib.hid (show syncA l roll sound tin tout frame = 0 by rw [SA.out, E1.out]; rfl)
      go_wp2
      go_ret2
      exact ⟨by rw [E1.out, E2.out]; rfl, (HB3.out.alloc (by omega) _).alloc (by simp; omega) _⟩
    | true =>
    have SE2 := Lib.hid (show syncE l roll sound tin tout frame = if framesN S.rate ≤ convN tin R.rate S.rate then 1 else if onB S.start S.long (syncN R S tin frame) = false then 1 else 0 by rw [SE.out, if_neg (show ¬ frame < tin by omega), if_neg (show ¬ tout ≤ frame by omega), if_neg (by rw [d3]; simp), if_neg (by rw [d4]; simp)])
    simp only [onB, Bool.and_eq_true, decide_eq_true_eq] at d3 d4
    clear SE
    go_wp2_with fail
    refine (ConvertOf_c tin R.rate S.rate _ KR1.out KR2.out (by omega) (by omega)).mono ?_
    rintro e w6 ⟨rfl, rfl⟩
    by_cases d5 : convN tin R.rate S.rate < framesN S.rate
    · have C3 := convN_nonneg KR1.out KR2.out (x := tin) (by omega)
      have C4 := sync_bd (r := R) (s := S) (tin := tin) (frame := frame) KR1.out KR2.out (by omega) (by omega) (by omega) (by omega)
      have SN := Lib.hid (show syncN R S tin frame = convN tin R.rate S.rate + (frame - tin) * (upDown R.rate S.rate).1 * (1000000 + S.drift) / ((upDown R.rate S.rate).2 * 1000000) from rfl)
      have SE3 := Lib.hid (show syncE l roll sound tin tout frame = if onB S.start S.long (syncN R S tin frame) = false then 1 else 0 by rw [SE2.out, if_neg (show ¬ framesN S.rate ≤ convN tin R.rate S.rate by omega)])
      have n1 := num_bd KR1.out
      have n2 := num_bd KR2.out
      have n3 := nd_bd KR1.out KR2.out
      have n4 := gcdI_pos (numN S.rate * denN R.rate) (denN S.rate * numN R.rate) n3.1
      have n5 := Lib.hid (show numN R.rate * denN S.rate = denN S.rate * numN R.rate from Int.mul_comm _ _)
      have n6 : 1 ≤ numN R.rate * denN S.rate ∧ numN R.rate * denN S.rate ≤ 30030000 := by rw [n5.out]; omega
      go_wp2_with fail
      refine (rateOf_c R.rate _).mono ?_
      rintro e w7 ⟨rfl, rfl⟩
      go_wp2_with fail
      refine (rateOf_c S.rate _).mono ?_
      rintro e w8 ⟨rfl, rfl⟩
      go_wp2
      go_loopw [26, 27, 28, 29] (fun a b u v wr => ∃ x y : Int, 0 ≤ x ∧ 0 ≤ y ∧ x ≤ 1000000000000000 ∧ y ≤ 1000000000000000 ∧ a = .int .i64 (numN S.rate * denN R.rate) ∧ b = .int .i64 (numN R.rate * denN S.rate) ∧ u = .int .i64 x ∧ v = .int .i64 y
        ∧ Hid (gcdI x y = gcdI (numN S.rate * denN R.rate) (denN S.rate * numN R.rate)) ∧ ∃ n, wr = ((w3.alloc (.cells #[.string S.name, .int .i64 S.rate, .int .i64 S.start, .int .i64 S.long, .int .i64 S.drift] 33)).alloc (.cells #[.int .i64 (R.start + R.long - 1)] 3)).drewN n) (fun _ _ _ v _ => (intOf v).toNat)
      case atStart => exact ⟨_, _, by omega, by omega, by omega, by omega, rfl, rfl, rfl, rfl, by rw [n5.out]; rfl, 0, rfl⟩
      case round =>
        obtain ⟨x, y, hx, hy, hx2, hy2, rfl, rfl, rfl, rfl, HG, n, rfl⟩ := hrel
        by_cases h0 : y = 0
        · subst h0
          have H0 := Lib.hid (show gcdI (numN S.rate * denN R.rate) (denN S.rate * numN R.rate) = x by rw [← HG.out]; exact gcdI_zero x hx)
          have U1 := Lib.hid (show (upDown R.rate S.rate).1 = numN S.rate * denN R.rate / x by unfold upDown; dsimp only; rw [H0.out])
          have U2 := Lib.hid (show (upDown R.rate S.rate).2 = numN R.rate * denN S.rate / x by unfold upDown; dsimp only; rw [H0.out, n5.out])
          rw [H0.out] at n4
          have hx0 : x ≠ 0 := by omega
          rw [U1.out, U2.out] at C4 SN
          cases d6 : onB S.start S.long (syncN R S tin frame) with
          | true =>
            have E1 := Lib.hid (show syncE l roll sound tin tout frame = 0 by rw [SE3.out, if_neg (by rw [d6]; simp)])
            have E2 := Lib.hid (show syncA l roll sound tin tout frame = syncN R S tin frame by rw [SA.out, E1.out]; rfl)
            rw [SN.out] at d6
            simp only [onB, Bool.and_eq_true, decide_eq_true_eq] at d6
            obtain ⟨d7, d8⟩ := d6
            go_wp2
            go_quiet (fail)
            go_wp2
            go_ret2
            exact ⟨by rw [E1.out, E2.out, SN.out]; rfl, below_drewN ((HB3.out.alloc (by omega) _).alloc (by simp; omega) _) _⟩
          | false =>
            have E1 := Lib.hid (show syncE l roll sound tin tout frame = 1 by rw [SE3.out, if_pos d6])
            have E2 := Lib.hid (show syncA l roll sound tin tout frame = 0 by rw [SA.out, E1.out]; rfl)
            rw [SN.out] at d6
            simp only [onB, Bool.and_eq_false_iff, decide_eq_false_iff_not] at d6
            go_wp2
            go_quiet (fail)
            go_wp2
            all_goals
              first
              | (exfalso; omega)
              | (go_ret2
                 exact ⟨by rw [E1.out, E2.out]; rfl, below_drewN ((HB3.out.alloc (by omega) _).alloc (by simp; omega) _) _⟩)
        · have h0' : (y == 0) = false := beq_eq_false_iff_ne.2 h0
          have hm1 := Int.emod_nonneg x h0
          have hm2 := Int.emod_lt_of_pos x (show 0 < y by omega)
          have HS := Lib.hid (gcdI_step x y hx (by omega))
          have h3 : y ≠ 0 := h0
          go_wp2
          go_quiet (fail)
          go_wp2
          go_roundw
          case rel => exact ⟨y, x % y, hy, hm1, hy2, by omega, rfl, rfl, rfl, rfl, by rw [HS.out]; exact HG, _, World.drewN_drewN _ _ _⟩
          case measure => simp [intOf]; omega
    · have B5 : decide (convN tin R.rate S.rate < framesN S.rate) = false := decide_eq_false d5
      have E1 := Lib.hid (show syncE l roll sound tin tout frame = 1 by rw [SE2.out, if_pos (show framesN S.rate ≤ convN tin R.rate S.rate by omega)])
      have E2 := Lib.hid (show syncA l roll sound tin tout frame = 0 by rw [SA.out, E1.out]; rfl)
      go_wp2
      go_ret2
      exact ⟨by rw [E1.out, E2.out]; rfl, (HB3.out.alloc (by omega) _).alloc (by simp; omega) _⟩
  · have H1 := Lib.hid (show syncE l roll sound tin tout frame = rollsFault l from if_pos hf)
    have H2 := Lib.hid (show syncA l roll sound tin tout frame = 0 by unfold syncA; rw [H1.out, if_neg hf])
    have hf' : (rollsFault l != 0) = true := by rw [bne_iff_ne]; exact hf
    go_enter Tryd.func12, Tryd.ntmps12
    go_wp2_with fail
    refine (RollsFault_c A l c lo _ ((HR.out.alloc (Nat.le_refl _) _).more (Nat.le_refl _) (by simp)) hlen hcap hsz).mono ?_
    rintro e w' ⟨rfl, hb1⟩
    have HB := Lib.hid (((Below.refl w.heap.size w).alloc (Nat.le_refl _) _).trans (hb1.mono (by simp)))
    clear hb1
    go_wp2
    go_ret2
    exact ⟨by rw [H1.out, H2.out]; rfl, HB.out⟩
end Go.Proofs.YtndgdbncfplndaaDoor
