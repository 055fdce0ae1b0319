/- The law TakeSlates walked: for every list of numbers and every text it returns true and leaves what was there. -/
import Derived.Test.YtndgdbncfplndaaDoorRows
import Derived.Test.YtndgdbncfplndaaDoorTakesW
import Derived.Test.YtndgdbncfplndaaDoorSlateX
import Derived.Test.YtndgdbncfplndaaDoorGenE
import Derived.Test.YtndgdbncfplndaaDoorLawA
import Derived.Deep.DeepCutAuto
namespace Go.Proofs.YtndgdbncfplndaaDoor
set_option linter.unusedVariables false
open Go.RowKit

set_option maxRecDepth 100000 in
set_option maxHeartbeats 8000000 in
theorem TakeSlates_c (A : Option Addr) (l : List Int) (c : Nat) (text : ByteArray) (w : World) (hr : Rs w 0 w.heap.size 1 intc A l) (hl : l.length ≤ 17592186044416) (ho : ∀ x ∈ l, okI x) (hz : text.size ≤ 140737488355328) (he : ErrsLaid w) (hp : PowLaid w) :
    Calls Tryd.prog 6 #[.slice A l.length c, .string text] w fun e w' => e = .returned (.bool true) ∧ Below w.heap.size w w' := by
  have S0 := Lib.hid (strNew w A l c hr hl ho)
  have HL := Lib.hid he
  have HP := Lib.hid hp
  clear hr ho he hp
  go_enter Tryd.func6, Tryd.ntmps6
  go_wp2_with fail
  refine (No_c w.heap.size 0 _ S0.out (by omega)).mono ?_
  rintro e w1 ⟨v1, k1, rfl, ⟨sc, hsc, rfl⟩, hk1, hs1, hg1⟩
  have S1 := Lib.hid hs1; have G1 := Lib.hid hg1; clear hs1 hg1
  go_wp2_with fail
  refine (Setup_c w.heap.size k1 _ S1.out (by omega)).mono ?_
  rintro e w2 ⟨v2, k2, rfl, ⟨se, hse, rfl⟩, hk2, hs2, hg2⟩
  have S2 := Lib.hid hs2; have G2 := Lib.hid (gTrans G1.out hg2); clear hs2 hg2
  go_wp2_with fail
  refine (range_c w.heap.size k2 (-1) 101 _ S2.out (by omega) (by omega) (by omega) (by omega)).mono ?_
  rintro e w3 ⟨v3, k3, rfl, ⟨n, hn, rfl⟩, hk3, hs3, hg3⟩
  have S3 := Lib.hid hs3; have G3 := Lib.hid (gTrans G2.out hg3); clear hs3 hg3 S0 S1 G1 S2 G2
  go_wp2_with fail
  refine (Slate_c sc se n _ (by omega) (by omega)).mono ?_
  rintro e w4 ⟨rfl, rfl⟩
  go_wp2_with fail
  refine (SlateFault_c sc se n _ (by omega) (by omega)).mono ?_
  rintro e w5 ⟨rfl, hb5⟩
  have S5 := Lib.hid (S3.out.below hb5)
  have G5 := Lib.hid (gBelow G3.out hb5); clear hb5 S3 G3
  have hk0 := S5.out.nonneg
  by_cases h0 : slateE sc se n = 0
  · obtain ⟨_, _, x1, x2⟩ := slateE_ok h0
    obtain ⟨m, rfl⟩ := Int.eq_ofNat_of_zero_le (show 0 ≤ n by omega)
    have HA := Lib.hid (show slateA sc se (m : Int) = slateS sc se m by unfold slateA; rw [if_pos h0]; simp)
    have hsz : (slateS sc se m).size ≤ 1000 := by
      rw [slateS_eq]
      have h1 : (whatS sc se).size ≤ 300 := by
        unfold whatS
        split
        · omega
        · rw [ByteArray.size_append, ByteArray.size_append]; show sc.size + 1 + se.size ≤ 300; omega
      have h2 := decDigits_small (n := m) (by omega)
      rw [ByteArray.size_append, ByteArray.size_append]
      show _ + 1 + _ ≤ 1000
      omega
    rw [h0, HA.out]
    clear h0
    go_wp2_with fail
    refine (SlateOf_c sc se m _ (by omega) (by omega) (by omega)).mono ?_
    rintro e w6 ⟨rfl, rfl⟩
    generalize slateS sc se m = t0 at *
    go_wp2_with fail
    refine (flip_c w.heap.size k3 2 _ S5.out (by omega) (by omega) (by omega)).mono ?_
    rintro e w7 ⟨v7, k7, rfl, ⟨b7, rfl⟩, hk7, hs7, hg7⟩
    have S7 := Lib.hid hs7; have G7 := Lib.hid (gTrans G5.out hg7); clear hs7 hg7
    cases b7 with
    | true =>
      go_wp2_with fail
      refine (Changed_c w.heap.size k7 t0 ⟨#[45, 47, 49, 65, 48]⟩ _ S7.out (by omega) (by omega) (by decide)).mono ?_
      rintro e w8 ⟨v8, k8, rfl, ⟨t8, ht8, rfl⟩, hk8, hs8, hg8⟩
      have G8 := Lib.hid (gTrans G7.out hg8); clear hs8 hg8
      have hz8 : t8.size ≤ 140737488355328 := by
        have : (⟨#[45, 47, 49, 65, 48]⟩ : ByteArray).size = 5 := rfl
        omega
      clear ht8
      go_wp2_with fail
      refine (ReadSlate_c t8 _ hz8 (gLaid G8.out HL.out)).mono ?_
      rintro e w11 ⟨ra, rb, rn, rok, hrp, rfl, hb11⟩
      have G11 := Lib.hid (gBelow G8.out hb11); clear hb11
      go_wp2_with fail
      refine (SlateFrom_c t8 _ hz8 (gLaid G11.out HL.out) (pow_below HP.out (gEnd G11.out) (Nat.le_refl _))).mono ?_
      rintro e w12 ⟨fa, fb, fn, fok, hfp, rfl, hb12⟩
      have G12 := Lib.hid (gBelow G11.out hb12); clear hb12
      obtain ⟨rfl, hsame⟩ := slP_same hrp hfp
      clear hrp hfp
      cases rok with
      | true =>
        obtain ⟨rfl, rfl, rfl⟩ := hsame rfl
        clear hsame
        go_wp2_with fail
        refine (takes_c _).mono ?_
        rintro e w13 ⟨rfl, hb13⟩
        have G13 := Lib.hid (gBelow G12.out hb13); clear hb13
        go_wp2
        go_ret
        exact ⟨ret_bool (by simp), gEnd G13.out⟩
      | false =>
        clear hsame
        go_wp2_with fail
        refine (takes_c _).mono ?_
        rintro e w13 ⟨rfl, hb13⟩
        have G13 := Lib.hid (gBelow G12.out hb13); clear hb13
        go_wp2
        go_ret
        exact ⟨ret_bool (by simp), gEnd G13.out⟩
    | false =>
      go_wp2_with fail
      refine (ReadSlate_c text _ hz (gLaid G7.out HL.out)).mono ?_
      rintro e w11 ⟨ra, rb, rn, rok, hrp, rfl, hb11⟩
      have G11 := Lib.hid (gBelow G7.out hb11); clear hb11
      go_wp2_with fail
      refine (SlateFrom_c text _ hz (gLaid G11.out HL.out) (pow_below HP.out (gEnd G11.out) (Nat.le_refl _))).mono ?_
      rintro e w12 ⟨fa, fb, fn, fok, hfp, rfl, hb12⟩
      have G12 := Lib.hid (gBelow G11.out hb12); clear hb12
      obtain ⟨rfl, hsame⟩ := slP_same hrp hfp
      clear hrp hfp
      cases rok with
      | true =>
        obtain ⟨rfl, rfl, rfl⟩ := hsame rfl
        clear hsame
        go_wp2_with fail
        refine (takes_c _).mono ?_
        rintro e w13 ⟨rfl, hb13⟩
        have G13 := Lib.hid (gBelow G12.out hb13); clear hb13
        go_wp2
        go_ret
        exact ⟨ret_bool (by simp), gEnd G13.out⟩
      | false =>
        clear hsame
        go_wp2_with fail
        refine (takes_c _).mono ?_
        rintro e w13 ⟨rfl, hb13⟩
        have G13 := Lib.hid (gBelow G12.out hb13); clear hb13
        go_wp2
        go_ret
        exact ⟨ret_bool (by simp), gEnd G13.out⟩
  · have e1 : (slateE sc se n == 0) = false := beq_eq_false_iff_ne.2 h0
    clear h0
    generalize slateE sc se n = z at *
    generalize slateA sc se n = z2 at *
    go_wp2_with fail
    refine (ReadSlate_c text _ hz (gLaid G5.out HL.out)).mono ?_
    rintro e w11 ⟨ra, rb, rn, rok, hrp, rfl, hb11⟩
    have G11 := Lib.hid (gBelow G5.out hb11); clear hb11
    go_wp2_with fail
    refine (SlateFrom_c text _ hz (gLaid G11.out HL.out) (pow_below HP.out (gEnd G11.out) (Nat.le_refl _))).mono ?_
    rintro e w12 ⟨fa, fb, fn, fok, hfp, rfl, hb12⟩
    have G12 := Lib.hid (gBelow G11.out hb12); clear hb12
    obtain ⟨rfl, hsame⟩ := slP_same hrp hfp
    clear hrp hfp
    cases rok with
    | true =>
      obtain ⟨rfl, rfl, rfl⟩ := hsame rfl
      clear hsame
      go_wp2_with fail
      refine (takes_c _).mono ?_
      rintro e w13 ⟨rfl, hb13⟩
      have G13 := Lib.hid (gBelow G12.out hb13); clear hb13
      go_wp2
      go_ret
      exact ⟨ret_bool (by simp), gEnd G13.out⟩
    | false =>
      clear hsame
      go_wp2_with fail
      refine (takes_c _).mono ?_
      rintro e w13 ⟨rfl, hb13⟩
      have G13 := Lib.hid (gBelow G12.out hb13); clear hb13
      go_wp2
      go_ret
      exact ⟨ret_bool (by simp), gEnd G13.out⟩
end Go.Proofs.YtndgdbncfplndaaDoor
