/- The generator's codes. -/
import Derived.Test.YtndgdbncfplndaaDoorRows
import Derived.Test.YtndgdbncfplndaaDoorGenC
import Derived.Test.YtndgdbncfplndaaDoorCodeR
namespace Go.Proofs.YtndgdbncfplndaaDoor
set_option linter.unusedVariables false
open Go.RowKit Go.Sort

theorem codeS_len (r x : Int) : (codeS r x).size = 11 := by
  have h : ∀ n, (twoS n).size = 2 := fun _ => rfl
  have h1 : (⟨#[58]⟩ : ByteArray).size = 1 := rfl
  have h2 : (colonS r).size = 1 := by unfold colonS; split <;> rfl
  unfold codeS fmtS
  simp only [ByteArray.size_append, h, h1, h2]

set_option maxHeartbeats 1000000 in
theorem GCode_c (sb : Nat) (k r : Int) (w : World) (hs : Str w sb k) (hk : k ≤ 3000000000000000000) :
    Calls Tryd.prog 26 #[.pointer (some ⟨sb, 0, none⟩), .int .i64 r] w (Took sb k 6 (isStr (fun x => x.size ≤ 100)) w) := by
  have h0 := hs.nonneg
  have S0 := Lib.hid hs; clear hs
  go_enter Tryd.func26, Tryd.ntmps26
  go_wp2_with fail
  refine (Frame_c sb k r _ S0.out (by omega)).mono ?_
  rintro e w1 ⟨v1, k1, rfl, ⟨x1, hx1, rfl⟩, hk1, hs1, hg1⟩
  have S1 := Lib.hid hs1; have G1 := Lib.hid hg1; clear hs1 hg1
  go_wp2_with fail
  refine (RightFrame_c r x1 _).mono ?_
  rintro e w' ⟨rfl, rfl⟩
  cases hR : rightB r x1 with
  | false =>
    go_wp2_with fail
    refine (oneL w1 [⟨#[48, 48, 58, 48, 49, 58, 48, 48, 59, 48, 48]⟩, ⟨#[48, 48, 58, 48, 49, 58, 48, 48, 59, 48, 49]⟩, ⟨#[48, 48, 58, 49, 48, 58, 48, 48, 59, 48, 48]⟩, ⟨#[50, 52, 58, 48, 48, 58, 48, 48, 58, 48, 48]⟩, ⟨#[50, 51, 58, 53, 57, 58, 53, 57, 58, 50, 57]⟩, ⟨#[48, 58, 48, 48, 58, 48, 48, 58, 48, 48]⟩, ⟨#[48, 48, 58, 48, 48, 58, 54, 48, 58, 48, 48]⟩, ⟨#[48, 48, 58, 48, 48, 58, 48, 48, 58, 50, 52]⟩, ⟨#[48, 48, 58, 48, 48, 58, 48, 48, 58, 50, 53]⟩, ⟨#[48, 48, 58, 48, 48, 58, 48, 48, 58, 51, 48]⟩, ⟨#[]⟩, ⟨#[48, 48, 58, 48, 48, 58, 48, 48]⟩] _ _ 12 _ rfl rfl (by decide) (by decide) S1.out (by omega)).mono ?_
    rintro e w2 ⟨v2, k2, rfl, ⟨x2, hx2, rfl⟩, hk2, hs2, hg2⟩
    have b2 : x2.size ≤ 100 := by
      have : ∀ y ∈ ([⟨#[48, 48, 58, 48, 49, 58, 48, 48, 59, 48, 48]⟩, ⟨#[48, 48, 58, 48, 49, 58, 48, 48, 59, 48, 49]⟩, ⟨#[48, 48, 58, 49, 48, 58, 48, 48, 59, 48, 48]⟩, ⟨#[50, 52, 58, 48, 48, 58, 48, 48, 58, 48, 48]⟩, ⟨#[50, 51, 58, 53, 57, 58, 53, 57, 58, 50, 57]⟩, ⟨#[48, 58, 48, 48, 58, 48, 48, 58, 48, 48]⟩, ⟨#[48, 48, 58, 48, 48, 58, 54, 48, 58, 48, 48]⟩, ⟨#[48, 48, 58, 48, 48, 58, 48, 48, 58, 50, 52]⟩, ⟨#[48, 48, 58, 48, 48, 58, 48, 48, 58, 50, 53]⟩, ⟨#[48, 48, 58, 48, 48, 58, 48, 48, 58, 51, 48]⟩, ⟨#[]⟩, ⟨#[48, 48, 58, 48, 48, 58, 48, 48]⟩] : List ByteArray), y.size ≤ 100 := by decide
      exact this x2 hx2
    have S2 := Lib.hid hs2; have G2 := Lib.hid (gTrans (gAlloc G1.out _) hg2); clear hs2 hg2 hx2
    go_wp2
    go_ret
    exact ⟨_, k2, rfl, ⟨x2, b2, rfl⟩, by omega, S2.out, G2.out⟩
  | true =>
    have hR' : isRateB r = true ∧ 0 ≤ x1 ∧ x1 < framesN r := by simpa [rightB, and_assoc] using hR
    have HR := Lib.hid hR'; clear hR'
    go_wp2_with fail
    refine (CodeOf_c r x1 _ HR.out.1 HR.out.2.1 HR.out.2.2).mono ?_
    rintro e w2 ⟨rfl, hb2⟩
    have S2 := Lib.hid (S1.out.below hb2); have G2 := Lib.hid (gBelow G1.out hb2); clear hb2
    go_wp2_with fail
    refine (flip_c sb k1 3 _ S2.out (by omega) (by omega) (by omega)).mono ?_
    rintro e w3 ⟨v3, k3, rfl, ⟨b3, rfl⟩, hk3, hs3, hg3⟩
    have S3 := Lib.hid hs3; have G3 := Lib.hid (gTrans G2.out hg3); clear hs3 hg3
    have hl := codeS_len r x1
    cases b3 with
    | false =>
      go_wp2
      go_ret
      exact ⟨_, k3, rfl, ⟨_, by show _ ≤ _; omega, rfl⟩, by omega, S3.out, G3.out⟩
    | true =>
      go_wp2_with fail
      refine (Changed_c sb k3 (codeS r x1) ⟨#[48, 58, 59, 57, 54]⟩ _ S3.out (by omega) (by omega) (by decide)).mono ?_
      rintro e w4 ⟨v4, k4, rfl, ⟨x4, hx4, rfl⟩, hk4, hs4, hg4⟩
      have b4 : x4.size ≤ 100 := by
        have : (⟨#[48, 58, 59, 57, 54]⟩ : ByteArray).size = 5 := rfl
        omega
      have S4 := Lib.hid hs4; have G4 := Lib.hid (gTrans G3.out hg4); clear hs4 hg4 hx4
      go_wp2
      go_ret
      exact ⟨_, k4, rfl, ⟨x4, b4, rfl⟩, by omega, S4.out, G4.out⟩
end Go.Proofs.YtndgdbncfplndaaDoor
