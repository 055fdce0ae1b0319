/- Texts packed: TgA. -/
import Derived.Test.YtojgjejbhcjifaaGreatDoorSm13
import Derived.Test.YtojgjejbhcjifaaGreatDoorSm01
import Derived.RegionTactic
/- The program's tests of elements and of words of patterns. -/
namespace Go.Proofs.YtojgjejbhcjifaaGreatDoor
set_option linter.unusedVariables false
open Go.RowKit

set_option maxHeartbeats 800000 in
theorem tSmall_c (c : UInt8) (w : World) : Calls Tryz.prog 63 #[.int .u8 c.toNat] w fun e w' => e = .returned (.bool (lowB c)) ∧ w = w' := by
  have hu : c.toNat < 256 := c.toNat_lt
  by_cases h : 97 ≤ c.toNat
  all_goals
    go_enter Tryz.func63, Tryz.ntmps63
    go_wp2
    go_ret
    exact ⟨ret_bool (by first | (simp [lowB, h]; done) | (rw [Bool.eq_iff_iff]; simp [lowB]; omega)), rfl⟩
set_option maxHeartbeats 800000 in
theorem tDigit_c (c : UInt8) (w : World) : Calls Tryz.prog 61 #[.int .u8 c.toNat] w fun e w' => e = .returned (.bool (digB c)) ∧ w = w' := by
  have hu : c.toNat < 256 := c.toNat_lt
  by_cases h : 48 ≤ c.toNat
  all_goals
    go_enter Tryz.func61, Tryz.ntmps61
    go_wp2
    go_ret
    exact ⟨ret_bool (by first | (simp [digB, h]; done) | (rw [Bool.eq_iff_iff]; simp [digB]; omega)), rfl⟩
set_option maxHeartbeats 1600000 in
theorem tWord_c (s : ByteArray) (w : World) (hs : s.size ≤ 4000000000) : Calls Tryz.prog 72 #[.string s] w fun e w' => e = .returned (.bool (pwB s)) ∧ Below w.heap.size w w' := by
  have HTR := Lib.hid (show Calls Tryz.prog 55 #[.string s, .string ⟨#[39]⟩] w fun e w' => e = .returned (.string (trQ s)) ∧ Below w.heap.size w w' from trim_c s ⟨#[39]⟩ w (by omega) (by decide) (by decide))
  by_cases h0 : s.size < 1
  · have HR := Lib.hid (pwB_no (.inl h0))
    have hz : (s.size : Int) < 1 := by omega
    go_enter Tryz.func72, Tryz.ntmps72
    go_wp2
    go_ret
    exact ⟨ret_bool HR.out.symm, Below.refl _ _⟩
  by_cases h1 : 20 < s.size
  · have HR := Lib.hid (pwB_no (.inr (.inl h1)))
    have hz : ¬ (s.size : Int) < 1 := by omega
    have hz2 : (20 : Int) < s.size := by omega
    go_enter Tryz.func72, Tryz.ntmps72
    go_wp2
    go_ret
    exact ⟨ret_bool HR.out.symm, Below.refl _ _⟩
  have hz1 : ¬ (s.size : Int) < 1 := by omega
  have hz2 : ¬ (20 : Int) < s.size := by omega
  cases htr : (trQ s).toList.isEmpty with
  | true =>
    have HR := Lib.hid (pwB_no (.inr (.inr (.inl htr))))
    generalize trQ s = q at *
    go_enter Tryz.func72, Tryz.ntmps72
    go_wp2_with (first | (go_at_call 55; refine HTR.out.mono ?_; rintro e w2 ⟨rfl, hb2⟩) | fail)
    go_ret
    exact ⟨ret_bool HR.out.symm, hb2⟩
  | false =>
  have HY := Lib.hid (pwB_yes (show 1 ≤ s.size by omega) (show s.size ≤ 20 by omega) htr)
  have HNO := Lib.hid (fun (h : allB pwC s = false) => pwB_no (.inr (.inr (.inr h))))
  generalize trQ s = q at *
  go_enter Tryz.func72, Tryz.ntmps72
  go_wp2_with (first | (go_at_call 55; refine HTR.out.mono ?_; rintro e w2 ⟨rfl, hb2⟩) | fail)
  have HB := Lib.hid hb2
  clear hb2 htr HTR h0 h1 hz1 hz2
  go_loop [19] (fun i => ∃ k : Nat, k ≤ s.size ∧ i = .int .i64 k ∧ Hid (∀ x ∈ s.data.toList.take k, pwC x = true)) (fun i => s.size - (intOf i).toNat)
  case atStart => exact ⟨0, Nat.zero_le _, rfl, by intro x hx; simp at hx⟩
  case round =>
    obtain ⟨k, hk, rfl, HN⟩ := hrel
    by_cases hlt : k < s.size
    · have hu : s[k].toNat < 256 := s[k].toNat_lt
      have HCC := Lib.hid (fun W => tSmall_c s[k] W)
      have HDD := Lib.hid (fun W => tDigit_c s[k] W)
      have HX := Lib.hid (fun (h : pwC s[k] = false) => HNO.out (allB_no hlt h))
      have HNX := Lib.hid (fun (h : pwC s[k] = true) => allB_next hlt HN.out h)
      have HPC := Lib.hid (show pwC s[k] = (lowB s[k] || digB s[k] || decide (s[k].toNat = 39)) from rfl)
      cases hc1 : lowB s[k] with
      | true =>
        have HK := Lib.hid (HNX.out (by rw [HPC.out, hc1]; simp))
        go_wp2_with (first | (go_at_call 63; with_reducible refine (HCC.out _).mono ?_; rintro e w' ⟨rfl, rfl⟩; rw [hc1]) | fail)
        go_round
        case rel => exact ⟨k + 1, by omega, intNum, HK.out⟩
        case measure => simp [intOf]; omega
      | false =>
      cases hc2 : digB s[k] with
      | true =>
        have HK := Lib.hid (HNX.out (by rw [HPC.out, hc1, hc2]; simp))
        go_wp2_with (first | (go_at_call 63; with_reducible refine (HCC.out _).mono ?_; rintro e w' ⟨rfl, rfl⟩; rw [hc1]) | (go_at_call 61; with_reducible refine (HDD.out _).mono ?_; rintro e w' ⟨rfl, rfl⟩; rw [hc2]) | fail)
        go_round
        case rel => exact ⟨k + 1, by omega, intNum, HK.out⟩
        case measure => simp [intOf]; omega
      | false =>
      by_cases hc3 : s[k].toNat = 39
      · have HK := Lib.hid (HNX.out (by rw [HPC.out, decide_eq_true hc3]; simp))
        have hc3' : ((s[k].toNat : Int) != 39) = false := by rw [hc3]; rfl
        clear hc3
        go_wp2_with (first | (go_at_call 63; with_reducible refine (HCC.out _).mono ?_; rintro e w' ⟨rfl, rfl⟩; rw [hc1]) | (go_at_call 61; with_reducible refine (HDD.out _).mono ?_; rintro e w' ⟨rfl, rfl⟩; rw [hc2]) | fail)
        go_round
        case rel => exact ⟨k + 1, by omega, intNum, HK.out⟩
        case measure => simp [intOf]; omega
      · have HR := Lib.hid (HX.out (by rw [HPC.out, hc1, hc2, decide_eq_false hc3]; rfl))
        have hc3' : ((s[k].toNat : Int) != 39) = true := bne_iff_ne.2 (by omega)
        clear hc3
        go_wp2_with (first | (go_at_call 63; with_reducible refine (HCC.out _).mono ?_; rintro e w' ⟨rfl, rfl⟩; rw [hc1]) | (go_at_call 61; with_reducible refine (HDD.out _).mono ?_; rintro e w' ⟨rfl, rfl⟩; rw [hc2]) | fail)
        go_ret
        exact ⟨ret_bool HR.out.symm, HB.out⟩
    · have HR := Lib.hid (HY.out.trans (allB_yes hlt HN.out))
      go_wp2
      go_ret
      exact ⟨ret_bool HR.out.symm, HB.out⟩
end Go.Proofs.YtojgjejbhcjifaaGreatDoor

