/- Texts packed: TgA. -/
import Derived.Test.YtlfnmmnbfoimeaaGreatDoorSc13
import Derived.Test.YtlfnmmnbfoimeaaGreatDoorSc02
import Derived.RegionTactic
/- The program's tests of elements and of words of patterns. -/
namespace Go.Proofs.YtlfnmmnbfoimeaaGreatDoor
set_option linter.unusedVariables false
open Go.RowKit

set_option maxHeartbeats 800000 in
theorem tSmall_c (c : UInt8) (w : World) : Calls Tryz.prog 125 #[.int .u8 c.toNat] w fun e w' => e = .returned (.bool (lowB c)) ∧ w = w' := by
  have hu : c.toNat < 256 := c.toNat_lt
  by_cases h : 97 ≤ c.toNat
  all_goals
    go_enter Tryz.func125, Tryz.ntmps125
    go_wp2
    go_ret
    exact ⟨ret_bool (by first | (simp [lowB, h]; done) | (rw [Bool.eq_iff_iff]; simp [lowB]; omega)), rfl⟩
set_option maxHeartbeats 800000 in
theorem tDigit_c (c : UInt8) (w : World) : Calls Tryz.prog 123 #[.int .u8 c.toNat] w fun e w' => e = .returned (.bool (digB c)) ∧ w = w' := by
  have hu : c.toNat < 256 := c.toNat_lt
  by_cases h : 48 ≤ c.toNat
  all_goals
    go_enter Tryz.func123, Tryz.ntmps123
    go_wp2
    go_ret
    exact ⟨ret_bool (by first | (simp [digB, h]; done) | (rw [Bool.eq_iff_iff]; simp [digB]; omega)), rfl⟩
set_option maxHeartbeats 1600000 in
theorem tThing_c (s : ByteArray) (w : World) (hs : s.size ≤ 4000000000) (hm : MaxLaid w) : Calls Tryz.prog 89 #[.string s] w fun e w' => e = .returned (.bool (thingB s)) ∧ w = w' := by
  have HPL := Lib.hid (Plain_c s w hs hm)
  clear hm
  by_cases h0 : s.size < 1
  · have HR := Lib.hid (thingB_no (.inl h0))
    have hz : (s.size : Int) < 1 := by omega
    go_enter Tryz.func89, Tryz.ntmps89
    go_wp2
    go_ret
    exact ⟨ret_bool HR.out.symm, rfl⟩
  by_cases h1 : 40 < s.size
  · have HR := Lib.hid (thingB_no (.inr (.inl h1)))
    have hz : ¬ (s.size : Int) < 1 := by omega
    have hz2 : (40 : Int) < s.size := by omega
    go_enter Tryz.func89, Tryz.ntmps89
    go_wp2
    go_ret
    exact ⟨ret_bool HR.out.symm, rfl⟩
  have hz1 : ¬ (s.size : Int) < 1 := by omega
  have hz2 : ¬ (40 : Int) < s.size := by omega
  cases hpl : plainB s with
  | false =>
    have HR := Lib.hid (thingB_no (.inr (.inr (.inl hpl))))
    go_enter Tryz.func89, Tryz.ntmps89
    go_wp2_with (first | (go_at_call 95; refine HPL.out.mono ?_; rintro e w' ⟨rfl, rfl⟩; rw [hpl]) | fail)
    go_ret
    exact ⟨ret_bool HR.out.symm, rfl⟩
  | true =>
  have HY := Lib.hid (thingB_yes (show 1 ≤ s.size by omega) (show s.size ≤ 40 by omega) hpl)
  have HNO := Lib.hid (fun (h : allB thC s = false) => thingB_no (.inr (.inr (.inr h))))
  go_enter Tryz.func89, Tryz.ntmps89
  go_wp2_with (first | (go_at_call 95; refine HPL.out.mono ?_; rintro e w' ⟨rfl, rfl⟩; rw [hpl]) | fail)
  clear hpl HPL h0 h1 hz1 hz2
  go_loop [19] (fun i => ∃ k : Nat, k ≤ s.size ∧ i = .int .i64 k ∧ Hid (∀ x ∈ s.data.toList.take k, thC x = true)) (fun i => s.size - (intOf i).toNat)
  case atStart => exact ⟨0, Nat.zero_le _, rfl, by intro x hx; simp at hx⟩
  case round =>
    obtain ⟨k, hk, rfl, HN⟩ := hrel
    by_cases hlt : k < s.size
    · have hu : s[k].toNat < 256 := s[k].toNat_lt
      have HCC := Lib.hid (fun W => tSmall_c s[k] W)
      have HDD := Lib.hid (fun W => tDigit_c s[k] W)
      have HX := Lib.hid (fun (h : thC s[k] = false) => HNO.out (allB_no hlt h))
      have HNX := Lib.hid (fun (h : thC s[k] = true) => allB_next hlt HN.out h)
      have HPC := Lib.hid (show thC s[k] = (lowB s[k] || digB s[k] || decide (s[k].toNat = 32)) from rfl)
      cases hc1 : lowB s[k] with
      | true =>
        have HK := Lib.hid (HNX.out (by rw [HPC.out, hc1]; simp))
        go_wp2_with (first | (go_at_call 125; with_reducible refine (HCC.out _).mono ?_; rintro e w' ⟨rfl, rfl⟩; rw [hc1]) | fail)
        go_round
        case rel => exact ⟨k + 1, by omega, intNum, HK.out⟩
        case measure => simp [intOf]; omega
      | false =>
      cases hc2 : digB s[k] with
      | true =>
        have HK := Lib.hid (HNX.out (by rw [HPC.out, hc1, hc2]; simp))
        go_wp2_with (first | (go_at_call 125; with_reducible refine (HCC.out _).mono ?_; rintro e w' ⟨rfl, rfl⟩; rw [hc1]) | (go_at_call 123; with_reducible refine (HDD.out _).mono ?_; rintro e w' ⟨rfl, rfl⟩; rw [hc2]) | fail)
        go_round
        case rel => exact ⟨k + 1, by omega, intNum, HK.out⟩
        case measure => simp [intOf]; omega
      | false =>
      by_cases hc3 : s[k].toNat = 32
      · have HK := Lib.hid (HNX.out (by rw [HPC.out, decide_eq_true hc3]; simp))
        have hc3' : ((s[k].toNat : Int) != 32) = false := by rw [hc3]; rfl
        clear hc3
        go_wp2_with (first | (go_at_call 125; with_reducible refine (HCC.out _).mono ?_; rintro e w' ⟨rfl, rfl⟩; rw [hc1]) | (go_at_call 123; with_reducible refine (HDD.out _).mono ?_; rintro e w' ⟨rfl, rfl⟩; rw [hc2]) | fail)
        go_round
        case rel => exact ⟨k + 1, by omega, intNum, HK.out⟩
        case measure => simp [intOf]; omega
      · have HR := Lib.hid (HX.out (by rw [HPC.out, hc1, hc2, decide_eq_false hc3]; rfl))
        have hc3' : ((s[k].toNat : Int) != 32) = true := bne_iff_ne.2 (by omega)
        clear hc3
        go_wp2_with (first | (go_at_call 125; with_reducible refine (HCC.out _).mono ?_; rintro e w' ⟨rfl, rfl⟩; rw [hc1]) | (go_at_call 123; with_reducible refine (HDD.out _).mono ?_; rintro e w' ⟨rfl, rfl⟩; rw [hc2]) | fail)
        go_ret
        exact ⟨ret_bool HR.out.symm, rfl⟩
    · have HR := Lib.hid (HY.out.trans (allB_yes hlt HN.out))
      go_wp2
      go_ret
      exact ⟨ret_bool HR.out.symm, rfl⟩
set_option maxHeartbeats 1600000 in
theorem tWord_c (s : ByteArray) (w : World) (hs : s.size ≤ 4000000000) : Calls Tryz.prog 100 #[.string s] w fun e w' => e = .returned (.bool (pwB s)) ∧ Below w.heap.size w w' := by
  have HTR := Lib.hid (show Calls Tryz.prog 92 #[.string s, .string ⟨#[39]⟩] w fun e w' => e = .returned (.string (trQ s)) ∧ Below w.heap.size w w' from trim_c s ⟨#[39]⟩ w (by omega) (by decide) (by decide))
  by_cases h0 : s.size < 1
  · have HR := Lib.hid (pwB_no (.inl h0))
    have hz : (s.size : Int) < 1 := by omega
    go_enter Tryz.func100, Tryz.ntmps100
    go_wp2
    go_ret
    exact ⟨ret_bool HR.out.symm, Below.refl _ _⟩
  by_cases h1 : 20 < s.size
  · have HR := Lib.hid (pwB_no (.inr (.inl h1)))
    have hz : ¬ (s.size : Int) < 1 := by omega
    have hz2 : (20 : Int) < s.size := by omega
    go_enter Tryz.func100, Tryz.ntmps100
    go_wp2
    go_ret
    exact ⟨ret_bool HR.out.symm, Below.refl _ _⟩
  have hz1 : ¬ (s.size : Int) < 1 := by omega
  have hz2 : ¬ (20 : Int) < s.size := by omega
  cases htr : (trQ s).toList.isEmpty with
  | true =>
    have HR := Lib.hid (pwB_no (.inr (.inr (.inl htr))))
    generalize trQ s = q at *
    go_enter Tryz.func100, Tryz.ntmps100
    go_wp2_with (first | (go_at_call 92; refine HTR.out.mono ?_; rintro e w2 ⟨rfl, hb2⟩) | fail)
    go_ret
    exact ⟨ret_bool HR.out.symm, hb2⟩
  | false =>
  have HY := Lib.hid (pwB_yes (show 1 ≤ s.size by omega) (show s.size ≤ 20 by omega) htr)
  have HNO := Lib.hid (fun (h : allB pwC s = false) => pwB_no (.inr (.inr (.inr h))))
  generalize trQ s = q at *
  go_enter Tryz.func100, Tryz.ntmps100
  go_wp2_with (first | (go_at_call 92; refine HTR.out.mono ?_; rintro e w2 ⟨rfl, hb2⟩) | fail)
  have HB := Lib.hid hb2
  clear hb2 htr HTR h0 h1 hz1 hz2
  go_loop [19] (fun i => ∃ k : Nat, k ≤ s.size ∧ i = .int .i64 k ∧ Hid (∀ x ∈ s.data.toList.take k, pwC x = true)) (fun i => s.size - (intOf i).toNat)
  case atStart => exact ⟨0, Nat.zero_le _, rfl, by intro x hx; simp at hx⟩
  case round =>
    obtain ⟨k, hk, rfl, HN⟩ := hrel
    by_cases hlt : k < s.size
    · have hu : s[k].toNat < 256 := s[k].toNat_lt
      have HCC := Lib.hid (fun W => tSmall_c s[k] W)
      have HDD := Lib.hid (fun W => tDigit_c s[k] W)
      have HX := Lib.hid (fun (h : pwC s[k] = false) => HNO.out (allB_no hlt h))
      have HNX := Lib.hid (fun (h : pwC s[k] = true) => allB_next hlt HN.out h)
      have HPC := Lib.hid (show pwC s[k] = (lowB s[k] || digB s[k] || decide (s[k].toNat = 39)) from rfl)
      cases hc1 : lowB s[k] with
      | true =>
        have HK := Lib.hid (HNX.out (by rw [HPC.out, hc1]; simp))
        go_wp2_with (first | (go_at_call 125; with_reducible refine (HCC.out _).mono ?_; rintro e w' ⟨rfl, rfl⟩; rw [hc1]) | fail)
        go_round
        case rel => exact ⟨k + 1, by omega, intNum, HK.out⟩
        case measure => simp [intOf]; omega
      | false =>
      cases hc2 : digB s[k] with
      | true =>
        have HK := Lib.hid (HNX.out (by rw [HPC.out, hc1, hc2]; simp))
        go_wp2_with (first | (go_at_call 125; with_reducible refine (HCC.out _).mono ?_; rintro e w' ⟨rfl, rfl⟩; rw [hc1]) | (go_at_call 123; with_reducible refine (HDD.out _).mono ?_; rintro e w' ⟨rfl, rfl⟩; rw [hc2]) | fail)
        go_round
        case rel => exact ⟨k + 1, by omega, intNum, HK.out⟩
        case measure => simp [intOf]; omega
      | false =>
      by_cases hc3 : s[k].toNat = 39
      · have HK := Lib.hid (HNX.out (by rw [HPC.out, decide_eq_true hc3]; simp))
        have hc3' : ((s[k].toNat : Int) != 39) = false := by rw [hc3]; rfl
        clear hc3
        go_wp2_with (first | (go_at_call 125; with_reducible refine (HCC.out _).mono ?_; rintro e w' ⟨rfl, rfl⟩; rw [hc1]) | (go_at_call 123; with_reducible refine (HDD.out _).mono ?_; rintro e w' ⟨rfl, rfl⟩; rw [hc2]) | fail)
        go_round
        case rel => exact ⟨k + 1, by omega, intNum, HK.out⟩
        case measure => simp [intOf]; omega
      · have HR := Lib.hid (HX.out (by rw [HPC.out, hc1, hc2, decide_eq_false hc3]; rfl))
        have hc3' : ((s[k].toNat : Int) != 39) = true := bne_iff_ne.2 (by omega)
        clear hc3
        go_wp2_with (first | (go_at_call 125; with_reducible refine (HCC.out _).mono ?_; rintro e w' ⟨rfl, rfl⟩; rw [hc1]) | (go_at_call 123; with_reducible refine (HDD.out _).mono ?_; rintro e w' ⟨rfl, rfl⟩; rw [hc2]) | fail)
        go_ret
        exact ⟨ret_bool HR.out.symm, HB.out⟩
    · have HR := Lib.hid (HY.out.trans (allB_yes hlt HN.out))
      go_wp2
      go_ret
      exact ⟨ret_bool HR.out.symm, HB.out⟩
theorem namC_eq (c : UInt8) : proC (⟨#[39, 46, 45]⟩ : ByteArray).data.toList c = (capB c || digB c || (⟨#[32, 39, 46, 45]⟩ : ByteArray).data.toList.contains c) := by
  unfold proC
  have e : (⟨#[32, 39, 46, 45]⟩ : ByteArray).data.toList.contains c = (decide (c.toNat = 32) || (⟨#[39, 46, 45]⟩ : ByteArray).data.toList.contains c) := by
    show List.contains [32, 39, 46, 45] c = (decide (c.toNat = 32) || List.contains [39, 46, 45] c)
    rw [List.contains_cons]
    congr 1
    rw [Bool.eq_iff_iff, beq_iff_eq, decide_eq_true_eq]
    exact ⟨fun h => by rw [h]; rfl, fun h => UInt8.toNat.inj h⟩
  rw [e]
  cases capB c <;> cases digB c <;> simp
set_option maxHeartbeats 1600000 in
theorem tName_c (s : ByteArray) (w : World) (hs : s.size ≤ 4000000000) (hm : MaxLaid w) : Calls Tryz.prog 88 #[.string s] w fun e w' => e = .returned (.bool (nameB s)) ∧ w = w' := by
  have HPL := Lib.hid (Plain_c s w hs hm)
  clear hm
  have HSB := Lib.hid (show nameB s = proB s 30 ⟨#[39, 46, 45]⟩ from rfl)
  by_cases h0 : s.size = 0
  · have HR := Lib.hid (HSB.out.trans (proB_no (.inl h0)))
    have hz : (s.size : Int) < 1 := by omega
    go_enter Tryz.func88, Tryz.ntmps88
    go_wp2
    go_ret
    exact ⟨ret_bool HR.out.symm, rfl⟩
  by_cases h1 : 30 < s.size
  · have HR := Lib.hid (HSB.out.trans (proB_no (.inr (.inl h1))))
    have hz : ¬ (s.size : Int) < 1 := by omega
    have hz2 : (30 : Int) < s.size := by omega
    go_enter Tryz.func88, Tryz.ntmps88
    go_wp2
    go_ret
    exact ⟨ret_bool HR.out.symm, rfl⟩
  have hp : 0 < s.size := by omega
  have hz1 : ¬ (s.size : Int) < 1 := by omega
  have hz2 : ¬ (30 : Int) < s.size := by omega
  have hu : s[0].toNat < 256 := s[0].toNat_lt
  by_cases ha : s[0].toNat < 65
  · have HR := Lib.hid (HSB.out.trans (proB_no (.inr (.inr (.inl ⟨hp, by simp [capB]; omega⟩)))))
    go_enter Tryz.func88, Tryz.ntmps88
    go_wp2
    go_ret
    exact ⟨ret_bool HR.out.symm, rfl⟩
  by_cases hb : 90 < s[0].toNat
  · have HR := Lib.hid (HSB.out.trans (proB_no (.inr (.inr (.inl ⟨hp, by simp [capB]; omega⟩)))))
    go_enter Tryz.func88, Tryz.ntmps88
    go_wp2
    go_ret
    exact ⟨ret_bool HR.out.symm, rfl⟩
  have hcp : capB s[0] = true := by simp [capB]; omega
  cases hpl : plainB s with
  | false =>
    have HR := Lib.hid (HSB.out.trans (proB_no (.inr (.inr (.inr (.inl hpl))))))
    clear hcp
    go_enter Tryz.func88, Tryz.ntmps88
    go_wp2_with (first | (go_at_call 95; refine HPL.out.mono ?_; rintro e w' ⟨rfl, rfl⟩; rw [hpl]) | fail)
    go_ret
    exact ⟨ret_bool HR.out.symm, rfl⟩
  | true =>
  have HY := Lib.hid (fun h => HSB.out.trans (proB_yes hp (show s.size ≤ 30 by omega) hcp hpl h))
  have HNO := Lib.hid (fun h => HSB.out.trans (proB_no (.inr (.inr (.inr (.inr h))))))
  clear hcp
  go_enter Tryz.func88, Tryz.ntmps88
  go_wp2_with (first | (go_at_call 95; refine HPL.out.mono ?_; rintro e w' ⟨rfl, rfl⟩; rw [hpl]) | fail)
  clear hpl HPL h0 h1 hz1 hz2
  go_loop [29] (fun i => ∃ k : Nat, k ≤ s.size ∧ i = .int .i64 k ∧ Hid (∀ x ∈ s.data.toList.take k, proC (⟨#[39, 46, 45]⟩ : ByteArray).data.toList x = true)) (fun i => s.size - (intOf i).toNat)
  case atStart => exact ⟨0, Nat.zero_le _, rfl, by intro x hx; simp at hx⟩
  case round =>
    obtain ⟨k, hk, rfl, HN⟩ := hrel
    by_cases hlt : k < s.size
    · have hu : s[k].toNat < 256 := s[k].toNat_lt
      have HDD := Lib.hid (fun W => tDigit_c s[k] W)
      have HII := Lib.hid (fun W => idxB_c (⟨#[32, 39, 46, 45]⟩ : ByteArray) s[k] W)
      have HX := Lib.hid (fun (h : proC (⟨#[39, 46, 45]⟩ : ByteArray).data.toList s[k] = false) => HNO.out (allB_no hlt h))
      have HNX := Lib.hid (fun (h : proC (⟨#[39, 46, 45]⟩ : ByteArray).data.toList s[k] = true) => allB_next hlt HN.out h)
      have HPC := Lib.hid (namC_eq s[k])
      by_cases hc1 : 65 ≤ s[k].toNat ∧ s[k].toNat ≤ 90
      · have HK := Lib.hid (HNX.out (by rw [HPC.out, show capB s[k] = true by simp [capB]; omega]; simp))
        obtain ⟨a1, a2⟩ := hc1
        have b1 : ¬ s[k].toNat < 65 := by omega
        have b2 : ¬ 90 < s[k].toNat := by omega
        go_wp2_with fail
        go_round
        case rel => exact ⟨k + 1, by omega, intNum, HK.out⟩
        case measure => simp [intOf]; omega
      have hcf : capB s[k] = false := by simp [capB]; omega
      have HCF := Lib.hid hcf
      clear hcf
      cases hc2 : digB s[k] with
      | true =>
        have HK := Lib.hid (HNX.out (by rw [HPC.out, hc2]; simp))
        by_cases b1 : s[k].toNat < 65
        · clear hc1
          go_wp2_with (first | (go_at_call 123; with_reducible refine (HDD.out _).mono ?_; rintro e w' ⟨rfl, rfl⟩; rw [hc2]) | fail)
          go_round
          case rel => exact ⟨k + 1, by omega, intNum, HK.out⟩
          case measure => simp [intOf]; omega
        · exfalso
          have := (show 48 ≤ s[k].toNat ∧ s[k].toNat ≤ 57 by simpa [digB] using hc2)
          omega
      | false =>
      by_cases hc4 : s[k] ∈ (⟨#[32, 39, 46, 45]⟩ : ByteArray).data.toList
      · have HK := Lib.hid (HNX.out (by rw [HPC.out, List.contains_iff_mem.2 hc4]; simp))
        have hix : ¬ Lib.indexByte (⟨#[32, 39, 46, 45]⟩ : ByteArray).data.toList s[k] < 0 := by have := (idxB_mem _ _).1 hc4; omega
        generalize Lib.indexByte (⟨#[32, 39, 46, 45]⟩ : ByteArray).data.toList s[k] = ix at *
        clear hc4
        by_cases b1 : s[k].toNat < 65
        all_goals
          (try have b2 : 90 < s[k].toNat := by omega)
          clear hc1
          go_wp2_with (first | (go_at_call 123; with_reducible refine (HDD.out _).mono ?_; rintro e w' ⟨rfl, rfl⟩; rw [hc2]) | (go_at_call 124; with_reducible refine (HII.out _).mono ?_; rintro e w' ⟨rfl, rfl⟩) | fail)
          go_round
          case rel => exact ⟨k + 1, by omega, intNum, HK.out⟩
          case measure => simp [intOf]; omega
      · have HR := Lib.hid (HX.out (by rw [HPC.out, HCF.out, hc2, show (⟨#[32, 39, 46, 45]⟩ : ByteArray).data.toList.contains s[k] = false from Bool.eq_false_iff.2 (fun h => hc4 (List.contains_iff_mem.1 h))]; rfl))
        have hix : Lib.indexByte (⟨#[32, 39, 46, 45]⟩ : ByteArray).data.toList s[k] < 0 := by
          have h2 : ¬ 0 ≤ Lib.indexByte (⟨#[32, 39, 46, 45]⟩ : ByteArray).data.toList s[k] := fun h => hc4 ((idxB_mem _ _).2 h)
          omega
        generalize Lib.indexByte (⟨#[32, 39, 46, 45]⟩ : ByteArray).data.toList s[k] = ix at *
        clear hc4
        by_cases b1 : s[k].toNat < 65
        all_goals
          (try have b2 : 90 < s[k].toNat := by omega)
          clear hc1
          go_wp2_with (first | (go_at_call 123; with_reducible refine (HDD.out _).mono ?_; rintro e w' ⟨rfl, rfl⟩; rw [hc2]) | (go_at_call 124; with_reducible refine (HII.out _).mono ?_; rintro e w' ⟨rfl, rfl⟩) | fail)
          go_ret
          exact ⟨ret_bool HR.out.symm, rfl⟩
    · have HR := Lib.hid (HY.out (allB_yes hlt HN.out))
      go_wp2
      go_ret
      exact ⟨ret_bool HR.out.symm, rfl⟩
end Go.Proofs.YtlfnmmnbfoimeaaGreatDoor

