/- The law TakeCodes walked: for every list of numbers it returns true and leaves what was there. -/
import Derived.Test.YtndgdbncfplndaaDoorRows
import Derived.Test.YtndgdbncfplndaaDoorTakesW
import Derived.Test.YtndgdbncfplndaaDoorCodeU
import Derived.Test.YtndgdbncfplndaaDoorCodeX
import Derived.Test.YtndgdbncfplndaaDoorGenD
import Derived.Test.YtndgdbncfplndaaDoorLawA
import Derived.Deep.DeepCutAuto
namespace Go.Proofs.YtndgdbncfplndaaDoor
set_option linter.unusedVariables false
open Go.RowKit

set_option maxRecDepth 100000 in
set_option maxHeartbeats 8000000 in
theorem TakeCodes_c (A : Option Addr) (l : List Int) (c : Nat) (w : World) (hr : Rs w 0 w.heap.size 1 intc A l) (hl : l.length ≤ 17592186044416) (ho : ∀ x ∈ l, okI x) (he : ErrsLaid w) :
    Calls Tryd.prog 5 #[.slice A l.length c] w fun e w' => e = .returned (.bool true) ∧ Below w.heap.size w w' := by
  have S0 := Lib.hid (strNew w A l c hr hl ho)
  have HL := Lib.hid he
  clear hr ho he
  have hcf : ∀ args W, (callFunc 27 args).run Tryd.prog W = .ok (.enter 27 args) W := fun _ _ => by kernel_rfl
  go_enter Tryd.func5, Tryd.ntmps5
  go_wp2_with fail
  refine (range_c w.heap.size 0 0 5 _ S0.out (by omega) (by omega) (by omega) (by omega)).mono ?_
  rintro e w1 ⟨v1, k1, rfl, ⟨x1, hx1, rfl⟩, hk1, hs1, hg1⟩
  have S1 := Lib.hid hs1; have G1 := Lib.hid hg1; clear hs1 hg1
  go_wp2_with fail
  refine (range_c w.heap.size k1 0 5 _ S1.out (by omega) (by omega) (by omega) (by omega)).mono ?_
  rintro e w2 ⟨v2, k2, rfl, ⟨x2, hx2, rfl⟩, hk2, hs2, hg2⟩
  have S2 := Lib.hid hs2; have G2 := Lib.hid (gTrans G1.out hg2); clear hs2 hg2
  go_wp2_with fail
  refine (flip_c w.heap.size k2 6 _ S2.out (by omega) (by omega) (by omega)).mono ?_
  rintro e w3 ⟨v3, k3, rfl, ⟨b3, rfl⟩, hk3, hs3, hg3⟩
  have S3 := Lib.hid hs3; have G3 := Lib.hid (gTrans G2.out hg3); clear hs3 hg3
  go_upto_if 28 with (fail)
  go_cut [4, 5] (fun s4 s5 wx => ∃ (r t k : Int), s4 = .int .i64 r ∧ s5 = .int .i64 t ∧ k ≤ 10 ∧ Hid (Str wx w.heap.size k) ∧ Hid ((w.alloc (.cells #[.slice A l.length c, .int .i64 0] 25)).grownBy wx (some w.heap.size)))
  case first =>
    cases b3 with
    | true =>
      go_wp2_with fail
      go_meet
      exact ⟨x1, x2, k3, rfl, rfl, by omega, S3.out, G3.out⟩
    | false =>
      go_wp2_with fail
      refine (range_c w.heap.size k3 1 4 _ S3.out (by omega) (by omega) (by omega) (by omega)).mono ?_
      rintro e w4 ⟨v4, k4, rfl, ⟨x4, hx4, rfl⟩, hk4, hs4, hg4⟩
      have S4 := Lib.hid hs4; have G4 := Lib.hid (gTrans G3.out hg4); clear hs4 hg4
      go_wp2_with fail
      refine (range_c w.heap.size k4 1 4 _ S4.out (by omega) (by omega) (by omega) (by omega)).mono ?_
      rintro e w5 ⟨v5, k5, rfl, ⟨x5, hx5, rfl⟩, hk5, hs5, hg5⟩
      have S5 := Lib.hid hs5; have G5 := Lib.hid (gTrans G4.out hg5); clear hs5 hg5
      go_wp2_with fail
      go_meet
      exact ⟨x4, x5, k5, rfl, rfl, by omega, S5.out, G5.out⟩
  case rest =>
    obtain ⟨r, t, k, rfl, rfl, hk, S4, G4⟩ := hcut
    clear hx1 hx2 hk1 hk2 hk3 S1 G1 S2 G2 S3 G3 S0
    have hk0 := S4.out.nonneg
    go_wp2_with fail
    refine (Frame_c w.heap.size k r _ S4.out (by omega)).mono ?_
    rintro e w5 ⟨v5, k5, rfl, ⟨n, hn, rfl⟩, hk5, hs5, hg5⟩
    have S5 := Lib.hid hs5; have G5 := Lib.hid (gTrans G4.out hg5); clear hs5 hg5
    go_wp2_with fail
    refine (GCode_c w.heap.size k5 r _ S5.out (by omega)).mono ?_
    rintro e w6 ⟨v6, k6, rfl, ⟨text, htext, rfl⟩, hk6, hs6, hg6⟩
    have G6 := Lib.hid (gTrans G5.out hg6); clear hs6 hg6 S5 G5 S4 G4 hk hk0 hk5 hk6
    go_wp2_with fail
    refine (Code_c r n _).mono ?_
    rintro e w7 ⟨rfl, hb7⟩
    have G7 := Lib.hid (gBelow G6.out hb7); clear hb7
    cases hR : isRateB r with
    | false =>
      have HR := Lib.hid hR
      have HE := Lib.hid (show codeE r n = 4 by unfold codeE; rw [if_pos hR])
      clear hR
      rw [HE.out]
      go_wp2_with fail
      refine (ReadCode_k r text _ HR.out).mono ?_
      rintro e w' ⟨rfl, rfl⟩
      go_wp2_with fail
      refine (Convert_k n r t _ (.inl HR.out)).mono ?_
      rintro e w' ⟨rfl, rfl⟩
      go_wp2_with fail
      refine (kind_c r _).mono ?_
      rintro e w' ⟨rfl, rfl⟩
      rw [HR.out]
      go_wp2_with fail
      refine (takes_c _).mono ?_
      rintro e w9 ⟨rfl, hb9⟩
      have G9 := Lib.hid (gBelow G7.out hb9); clear hb9
      go_wp2
      go_ret
      exact ⟨rfl, gEnd G9.out⟩
    | true =>
      have HR := Lib.hid hR
      clear hR
      go_wp2_with fail
      refine (ReadCode_c r text _ HR.out (by omega)).mono ?_
      rintro e w8 ⟨⟨rv, rok, hrp, rfl⟩, hb8⟩
      have RP := Lib.hid hrp; clear hrp
      have G8 := Lib.hid (gBelow G7.out hb8); clear hb8
      have HS := Lib.hid (show text.size ≤ 1000000000 by omega)
      clear htext
      cases hv : rightB r n with
      | true =>
        have hv' : 0 ≤ n ∧ n < framesN r := by simpa [rightB, HR.out] using hv
        have HE := Lib.hid (show codeE r n = 0 by unfold codeE; rw [if_neg (by rw [HR.out]; simp), if_neg (by omega)])
        have HA := Lib.hid (show codeA r n = codeS r n by unfold codeA; rw [HE.out]; rfl)
        have HVV := Lib.hid hv'; clear hv'
        have HV := Lib.hid hv; clear hv hn
        rw [HE.out, HA.out]
        cases ht : isRateB t with
        | true =>
          have HT := Lib.hid ht; clear ht
          go_wp2_with fail
          refine (Convert_c n r t _ HR.out HT.out HVV.out.1 HVV.out.2).mono ?_
          rintro e w9 ⟨rfl, ⟨nd, rfl⟩⟩
          have G9 := Lib.hid (grown_drewN G8.out nd)
          go_wp2_with fail
          refine (kind_c r _).mono ?_
          rintro e w' ⟨rfl, rfl⟩
          rw [HR.out]
          go_wp2_with fail
          refine (RightFrame_c r n _).mono ?_
          rintro e w' ⟨rfl, rfl⟩
          rw [HV.out]
          go_wp2_with fail
          refine (CodeOf_c r n _ HR.out HVV.out.1 HVV.out.2).mono ?_
          rintro e w10 ⟨rfl, hb10⟩
          have G10 := Lib.hid (gBelow G9.out hb10); clear hb10
          go_wp2_with fail
          refine (CodeFrom_c r text _ HR.out HS.out (gLaid G10.out HL.out)).mono ?_
          rintro e w11 ⟨⟨fv, fok, rfl, hfp⟩, hb11⟩
          have G11 := Lib.hid (gBelow G10.out hb11); clear hb11
          obtain ⟨rfl, hsame⟩ := readP_same HR.out RP.out hfp
          clear hfp
          cases rok with
          | true =>
            obtain rfl := hsame rfl
            clear hsame
            go_wp2_with fail
            refine (kind_c t _).mono ?_
            rintro e w' ⟨rfl, rfl⟩
            rw [HT.out]
            go_wp2_with fail
            refine (RightFrame_c r n _).mono ?_
            rintro e w' ⟨rfl, rfl⟩
            rw [HV.out]
            go_wp2_with fail
            refine (ConvertOf_c n r t _ HR.out HT.out HVV.out.1 (by have := (frames_bd HR.out).2; have := HVV.out.2; omega)).mono ?_
            rintro e w' ⟨rfl, rfl⟩
            go_wp2_with fail
            refine (takes_c _).mono ?_
            rintro e w12 ⟨rfl, hb12⟩
            have G12 := Lib.hid (gBelow G11.out hb12); clear hb12
            by_cases hc : convN n r t < framesN t
            · have E1 := Lib.hid (show convA n r t = convN n r t by unfold convA; rw [if_neg (by omega)])
              have E2 := Lib.hid (show convE n r t = 0 by unfold convE; rw [if_neg (by omega)])
              have E3 := Lib.hid (show decide (convN n r t < framesN t) = true from decide_eq_true hc)
              clear hc
              rw [E1.out, E2.out, E3.out]
              go_wp2
              go_ret
              exact ⟨ret_bool (by simp), gEnd G12.out⟩
            · have E2 := Lib.hid (show convE n r t = 1 by unfold convE; rw [if_pos (by omega)])
              have E3 := Lib.hid (show decide (convN n r t < framesN t) = false from decide_eq_false hc)
              clear hc
              rw [E2.out, E3.out]
              go_wp2
              go_ret
              exact ⟨ret_bool (by simp), gEnd G12.out⟩
          | false =>
            clear hsame
            go_wp2_with fail
            refine (kind_c t _).mono ?_
            rintro e w' ⟨rfl, rfl⟩
            rw [HT.out]
            go_wp2_with fail
            refine (RightFrame_c r n _).mono ?_
            rintro e w' ⟨rfl, rfl⟩
            rw [HV.out]
            go_wp2_with fail
            refine (ConvertOf_c n r t _ HR.out HT.out HVV.out.1 (by have := (frames_bd HR.out).2; have := HVV.out.2; omega)).mono ?_
            rintro e w' ⟨rfl, rfl⟩
            go_wp2_with fail
            refine (takes_c _).mono ?_
            rintro e w12 ⟨rfl, hb12⟩
            have G12 := Lib.hid (gBelow G11.out hb12); clear hb12
            by_cases hc : convN n r t < framesN t
            · have E1 := Lib.hid (show convA n r t = convN n r t by unfold convA; rw [if_neg (by omega)])
              have E2 := Lib.hid (show convE n r t = 0 by unfold convE; rw [if_neg (by omega)])
              have E3 := Lib.hid (show decide (convN n r t < framesN t) = true from decide_eq_true hc)
              clear hc
              rw [E1.out, E2.out, E3.out]
              go_wp2
              go_ret
              exact ⟨ret_bool (by simp), gEnd G12.out⟩
            · have E2 := Lib.hid (show convE n r t = 1 by unfold convE; rw [if_pos (by omega)])
              have E3 := Lib.hid (show decide (convN n r t < framesN t) = false from decide_eq_false hc)
              clear hc
              rw [E2.out, E3.out]
              go_wp2
              go_ret
              exact ⟨ret_bool (by simp), gEnd G12.out⟩
        | false =>
          have HT := Lib.hid ht; clear ht
          go_wp2_with fail
          refine (Convert_k n r t _ (.inr HT.out)).mono ?_
          rintro e w' ⟨rfl, rfl⟩
          have G9 := G8
          go_wp2_with fail
          refine (kind_c r _).mono ?_
          rintro e w' ⟨rfl, rfl⟩
          rw [HR.out]
          go_wp2_with fail
          refine (RightFrame_c r n _).mono ?_
          rintro e w' ⟨rfl, rfl⟩
          rw [HV.out]
          go_wp2_with fail
          refine (CodeOf_c r n _ HR.out HVV.out.1 HVV.out.2).mono ?_
          rintro e w10 ⟨rfl, hb10⟩
          have G10 := Lib.hid (gBelow G9.out hb10); clear hb10
          go_wp2_with fail
          refine (CodeFrom_c r text _ HR.out HS.out (gLaid G10.out HL.out)).mono ?_
          rintro e w11 ⟨⟨fv, fok, rfl, hfp⟩, hb11⟩
          have G11 := Lib.hid (gBelow G10.out hb11); clear hb11
          obtain ⟨rfl, hsame⟩ := readP_same HR.out RP.out hfp
          clear hfp
          cases rok with
          | true =>
            obtain rfl := hsame rfl
            clear hsame
            go_wp2_with fail
            refine (kind_c t _).mono ?_
            rintro e w' ⟨rfl, rfl⟩
            rw [HT.out]
            go_wp2_with fail
            refine (takes_c _).mono ?_
            rintro e w12 ⟨rfl, hb12⟩
            have G12 := Lib.hid (gBelow G11.out hb12); clear hb12
            go_wp2
            go_ret
            exact ⟨rfl, gEnd G12.out⟩
          | false =>
            clear hsame
            go_wp2_with fail
            refine (kind_c t _).mono ?_
            rintro e w' ⟨rfl, rfl⟩
            rw [HT.out]
            go_wp2_with fail
            refine (takes_c _).mono ?_
            rintro e w12 ⟨rfl, hb12⟩
            have G12 := Lib.hid (gBelow G11.out hb12); clear hb12
            go_wp2
            go_ret
            exact ⟨rfl, gEnd G12.out⟩
      | false =>
        have hv' : n < 0 ∨ framesN r ≤ n := by simp [rightB, HR.out] at hv; omega
        have HE := Lib.hid (show codeE r n = 1 by unfold codeE; rw [if_neg (by rw [HR.out]; simp), if_pos hv'])
        have HA := Lib.hid (show codeA r n = ⟨#[]⟩ by unfold codeA; rw [HE.out]; rfl)
        have HVV := Lib.hid hv'; clear hv'
        have HV := Lib.hid hv; clear hv hn
        rw [HE.out, HA.out]
        cases ht : isRateB t with
        | true =>
          have HT := Lib.hid ht; clear ht
          go_wp2_with fail
          refine (Convert_a n r t _ HR.out HT.out HVV.out).mono ?_
          rintro e w' ⟨rfl, rfl⟩
          have G9 := G8
          go_wp2_with fail
          refine (kind_c r _).mono ?_
          rintro e w' ⟨rfl, rfl⟩
          rw [HR.out]
          go_wp2_with fail
          refine (RightFrame_c r n _).mono ?_
          rintro e w' ⟨rfl, rfl⟩
          rw [HV.out]
          have G10 := G9
          go_wp2_with fail
          refine (CodeFrom_c r text _ HR.out HS.out (gLaid G10.out HL.out)).mono ?_
          rintro e w11 ⟨⟨fv, fok, rfl, hfp⟩, hb11⟩
          have G11 := Lib.hid (gBelow G10.out hb11); clear hb11
          obtain ⟨rfl, hsame⟩ := readP_same HR.out RP.out hfp
          clear hfp
          cases rok with
          | true =>
            obtain rfl := hsame rfl
            clear hsame
            go_wp2_with fail
            refine (kind_c t _).mono ?_
            rintro e w' ⟨rfl, rfl⟩
            rw [HT.out]
            go_wp2_with fail
            refine (RightFrame_c r n _).mono ?_
            rintro e w' ⟨rfl, rfl⟩
            rw [HV.out]
            go_wp2_with fail
            refine (takes_c _).mono ?_
            rintro e w12 ⟨rfl, hb12⟩
            have G12 := Lib.hid (gBelow G11.out hb12); clear hb12
            go_wp2
            go_ret
            exact ⟨rfl, gEnd G12.out⟩
          | false =>
            clear hsame
            go_wp2_with fail
            refine (kind_c t _).mono ?_
            rintro e w' ⟨rfl, rfl⟩
            rw [HT.out]
            go_wp2_with fail
            refine (RightFrame_c r n _).mono ?_
            rintro e w' ⟨rfl, rfl⟩
            rw [HV.out]
            go_wp2_with fail
            refine (takes_c _).mono ?_
            rintro e w12 ⟨rfl, hb12⟩
            have G12 := Lib.hid (gBelow G11.out hb12); clear hb12
            go_wp2
            go_ret
            exact ⟨rfl, gEnd G12.out⟩
        | false =>
          have HT := Lib.hid ht; clear ht
          go_wp2_with fail
          refine (Convert_k n r t _ (.inr HT.out)).mono ?_
          rintro e w' ⟨rfl, rfl⟩
          have G9 := G8
          go_wp2_with fail
          refine (kind_c r _).mono ?_
          rintro e w' ⟨rfl, rfl⟩
          rw [HR.out]
          go_wp2_with fail
          refine (RightFrame_c r n _).mono ?_
          rintro e w' ⟨rfl, rfl⟩
          rw [HV.out]
          have G10 := G9
          go_wp2_with fail
          refine (CodeFrom_c r text _ HR.out HS.out (gLaid G10.out HL.out)).mono ?_
          rintro e w11 ⟨⟨fv, fok, rfl, hfp⟩, hb11⟩
          have G11 := Lib.hid (gBelow G10.out hb11); clear hb11
          obtain ⟨rfl, hsame⟩ := readP_same HR.out RP.out hfp
          clear hfp
          cases rok with
          | true =>
            obtain rfl := hsame rfl
            clear hsame
            go_wp2_with fail
            refine (kind_c t _).mono ?_
            rintro e w' ⟨rfl, rfl⟩
            rw [HT.out]
            go_wp2_with fail
            refine (takes_c _).mono ?_
            rintro e w12 ⟨rfl, hb12⟩
            have G12 := Lib.hid (gBelow G11.out hb12); clear hb12
            go_wp2
            go_ret
            exact ⟨rfl, gEnd G12.out⟩
          | false =>
            clear hsame
            go_wp2_with fail
            refine (kind_c t _).mono ?_
            rintro e w' ⟨rfl, rfl⟩
            rw [HT.out]
            go_wp2_with fail
            refine (takes_c _).mono ?_
            rintro e w12 ⟨rfl, hb12⟩
            have G12 := Lib.hid (gBelow G11.out hb12); clear hb12
            go_wp2
            go_ret
            exact ⟨rfl, gEnd G12.out⟩
end Go.Proofs.YtndgdbncfplndaaDoor
