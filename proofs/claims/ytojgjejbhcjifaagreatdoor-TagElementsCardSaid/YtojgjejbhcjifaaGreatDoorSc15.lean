/- Texts packed: ChkE. -/
import Derived.Test.YtojgjejbhcjifaaGreatDoorSc14
/- The reference's error of a paragraph. -/
namespace Go.Proofs.YtojgjejbhcjifaaGreatDoor
set_option linter.unusedVariables false
open Go.RowKit

abbrev namSS : ByteArray := ⟨#[65, 66, 67, 68, 69, 70, 71, 72, 73, 74, 75, 76, 77, 78, 79, 80, 81, 82, 83, 84, 85, 86, 87, 88, 89, 90, 48, 49, 50, 51, 52, 53, 54, 55, 56, 57, 32, 39, 46, 45]⟩
theorem nam_ascii : (namSS.data.toList.all fun b => decide (b.toNat < 128)) = true := by decide +kernel
theorem nam_size : namSS.size ≤ 1000 := by decide +kernel
theorem nam_made (s : ByteArray) : allB (namSS.data.toList.contains ·) s = allB (proC (⟨#[39, 46, 45]⟩ : ByteArray).data.toList) s := allB_congr (by decide +kernel) s
set_option maxRecDepth 100000 in
set_option maxHeartbeats 4000000 in
theorem NameOf_c (s : ByteArray) (w : World) (hs : s.size ≤ 1000000) (hsp : SpLaid w) : Calls Tryz.prog 34 #[.string s] w fun e w' => e = .returned (.bool (nameB s)) ∧ Below w.heap.size w w' := by
  have HLO := Lib.hid (long_c s 1 30 w (by omega))
  have HPL := Lib.hid (plainR_c s w (by omega) hsp)
  have HM1 := Lib.hid (fun W => made_c s namSS W (by omega) nam_size nam_ascii)
  have HM2 := Lib.hid (fun W => made_c (s.extract 0 1) capsS W (by rw [ByteArray.size_extract]; omega) caps_size caps_ascii)
  clear hsp
  have HSB := Lib.hid (show nameB s = proB s 30 ⟨#[39, 46, 45]⟩ from rfl)
  by_cases h0 : s.size = 0 ∨ 30 < s.size
  · have HR := Lib.hid (show nameB s = false by rw [HSB.out, proB_no (by rcases h0 with h | h; exact .inl h; exact .inr (.inl h))])
    have hlo : (decide ((1 : Int) ≤ s.size) && decide ((s.size : Int) ≤ 30)) = false := by
      rcases h0 with h | h
      · rw [decide_eq_false (by omega)]; rfl
      · rw [decide_eq_false (p := (s.size : Int) ≤ 30) (by omega)]; simp
    clear h0
    go_enter Tryz.func34, Tryz.ntmps34
    go_wp2_with (first | (go_at_call 35; with_reducible refine HLO.out.mono ?_; rintro e w' ⟨rfl, rfl⟩; rw [hlo]) | fail)
    go_ret
    exact ⟨ret_bool HR.out.symm, Below.refl _ _⟩
  have hlo : (decide ((1 : Int) ≤ s.size) && decide ((s.size : Int) ≤ 30)) = true := by rw [decide_eq_true (by omega), decide_eq_true (by omega)]; rfl
  have hp : 0 < s.size := by omega
  have hp1 : (1 : Int) ≤ s.size := by omega
  cases hpl : plainB s with
  | false =>
    have HR := Lib.hid (show nameB s = false by rw [HSB.out, proB_no (.inr (.inr (.inr (.inl hpl))))])
    go_enter Tryz.func34, Tryz.ntmps34
    go_wp2_with (first | (go_at_call 35; with_reducible refine HLO.out.mono ?_; rintro e w' ⟨rfl, rfl⟩; rw [hlo]) | (go_at_call 36; with_reducible refine HPL.out.mono ?_; rintro e w2 ⟨rfl, hb2⟩; rw [hpl]) | fail)
    go_ret
    exact ⟨ret_bool HR.out.symm, hb2⟩
  | true =>
  have hset := nam_made s
  cases hpc : allB (proC (⟨#[39, 46, 45]⟩ : ByteArray).data.toList) s with
  | false =>
    have HR := Lib.hid (show nameB s = false by rw [HSB.out, proB_no (.inr (.inr (.inr (.inr hpc))))])
    rw [hpc] at hset
    go_enter Tryz.func34, Tryz.ntmps34
    go_wp2_with (first | (go_at_call 35; with_reducible refine HLO.out.mono ?_; rintro e w' ⟨rfl, rfl⟩; rw [hlo]) | (go_at_call 36; with_reducible refine HPL.out.mono ?_; rintro e w2 ⟨rfl, hb2⟩; rw [hpl]) | (go_at_call 37; with_reducible refine (HM1.out w2).mono ?_; rintro e w3 ⟨rfl, hb3⟩; rw [hset]) | fail)
    go_ret
    exact ⟨ret_bool HR.out.symm, hb2.trans (hb3.mono hb2.size)⟩
  | true =>
  rw [hpc] at hset
  have hcf := cap_first hp
  have hex : (s.extract 0 1).size ≤ 1000000 := by rw [ByteArray.size_extract]; omega
  have HR := Lib.hid (show nameB s = capB s[0] by
    cases hcp : capB s[0] with
    | false => rw [HSB.out, proB_no (.inr (.inr (.inl ⟨hp, hcp⟩)))]
    | true => rw [HSB.out, proB_yes hp (by omega) hcp hpl hpc])
  generalize capB s[0] = cp at *
  go_enter Tryz.func34, Tryz.ntmps34
  go_wp2_with (first | (go_at_call 35; with_reducible refine HLO.out.mono ?_; rintro e w' ⟨rfl, rfl⟩; rw [hlo]) | (go_at_call 36; with_reducible refine HPL.out.mono ?_; rintro e w2 ⟨rfl, hb2⟩; rw [hpl]) | (go_at_call 37; with_reducible refine (HM1.out w2).mono ?_; rintro e w3 ⟨rfl, hb3⟩; rw [hset]) | (go_at_call 37; with_reducible refine (HM2.out w3).mono ?_; rintro e w4 ⟨rfl, hb4⟩; rw [hcf]) | fail)
  go_ret
  exact ⟨ret_bool HR.out.symm, (hb2.trans (hb3.mono hb2.size)).trans (hb4.mono (hb2.trans (hb3.mono hb2.size)).size)⟩

/-- A test of two numbers in the spellings of the walk. -/
theorem eqF (a c : Int) : (a = c ∧ (a == c) = true ∧ (a != c) = false) ∨ (¬ a = c ∧ (a == c) = false ∧ (a != c) = true) := by
  by_cases h : a = c
  · exact .inl ⟨h, beq_iff_eq.2 h, by rw [bne, beq_iff_eq.2 h]; rfl⟩
  · exact .inr ⟨h, beq_eq_false_iff_ne.2 h, by rw [bne_iff_ne]; exact h⟩
end Go.Proofs.YtojgjejbhcjifaaGreatDoor

