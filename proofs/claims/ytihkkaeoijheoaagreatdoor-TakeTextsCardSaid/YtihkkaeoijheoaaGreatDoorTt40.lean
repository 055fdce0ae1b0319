/- Texts packed: LawTakeTexts. -/
import Derived.Test.YtihkkaeoijheoaaGreatDoorRows
import Derived.Test.YtihkkaeoijheoaaGreatDoorTt07
import Derived.Test.YtihkkaeoijheoaaGreatDoorTt39
import Derived.Test.YtihkkaeoijheoaaGreatDoorTt34
import Derived.Test.YtihkkaeoijheoaaGreatDoorTt24
import Derived.Test.YtihkkaeoijheoaaGreatDoorTt12
import Derived.Test.YtihkkaeoijheoaaGreatDoorTt03
import Derived.Deep.DeepCutAuto
/- The law TakeTexts walked: for every list of numbers it returns true and leaves what was there. -/
namespace Go.Proofs.YtihkkaeoijheoaaGreatDoor
set_option linter.unusedVariables false
open Go.RowKit Go.Sort

set_option maxRecDepth 100000 in
set_option maxHeartbeats 8000000 in
theorem TakeTexts_c (A : Option Addr) (l : List Int) (c : Nat) (w : World) (hr : Rs w 0 w.heap.size 1 intc A l) (hl : l.length ≤ 17592186044416) (ho : ∀ x ∈ l, okI x) (he : ErrsLaid w) (hp : PowLaid w) (hm : MaxLaid w) :
    Calls Tryz.prog 4 #[.slice A l.length c] w fun e w' => e = .returned (.bool true) ∧ Below w.heap.size w w' := by
  have S0 := strNew w A l c hr hl ho
  have HL := LaidS.start he hp
  have L0 := HL.alloc (Nat.le_refl _) (.cells #[.slice A l.length c, .int .i64 0] 25)
  have hW0 : (w.alloc (.cells #[.slice A l.length c, .int .i64 0] 25)).heap.size = w.heap.size + 1 := by simp
  have HX := Lib.hid (fun (w1 : World) (h : (w.alloc (.cells #[.slice A l.length c, .int .i64 0] 25)).grownBy w1 (some w.heap.size)) => show Below w.heap.size w w1 ∧ MaxLaid w1 from ⟨gEnd h, max_below hm (gEnd h) (Nat.le_refl _)⟩)
  clear hr ho he hp hm HL
  go_enter Tryz.func4, Tryz.ntmps4
  go_upto_region 2 with (fail)
  generalize w.alloc (.cells #[.slice A l.length c, .int .i64 0] 25) = W0 at *
  have S0 := Lib.hid S0
  have L0 := Lib.hid L0
  generalize hsb : w.heap.size = sb at *
  have HSB := Lib.hid hsb
  have hlt0 : sb < W0.heap.size := by omega
  clear hsb hW0
  go_wp2_with fail
  refine (Story_c sb 0 _ S0.out (by omega) L0.out).mono ?_
  rintro e w2 ⟨v2, k2, rfl, ⟨x, ls, sv, rfl, hxs, hown, hin, hbd⟩, hk2, hs2, hg2⟩
  have hz2 := hg2.size
  have S2 := Lib.hid hs2
  have G2 := Lib.hid hg2
  have L2 := Lib.hid (L0.out.grown hlt0 hg2)
  have O2 := Lib.hid (hown.sli (F := fun q => W0.heap.size ≤ q ∧ q < w2.heap.size) (fun q h1 h2 => ⟨h1, h2⟩) (fun g hg => ⟨(hown.block g hg).1, (hown.block g hg).2⟩))
  have HN2 := Lib.hid (show ∀ y ∈ ls, ∃ A c, y.2 = .slice A y.1.paras.length c from fun y hy => by
    obtain ⟨A, c, e, _⟩ := (hin y hy).form
    exact ⟨A, c, e⟩)
  have HL2 := Lib.hid (show ls.length ≤ 90 by have := hbd.2.1; rw [hxs, List.length_map] at this; exact this)
  have HB2 := Lib.hid (show ∀ y ∈ ls, sceneBd y.1 from fun y hy => hbd.2.2 _ (by rw [hxs]; exact List.mem_map_of_mem hy))
  have hk20 := hs2.nonneg
  clear hs2 hg2 hown hin hbd hxs S0 L0
  go_wp2_with fail
  refine (RightRolls_c sb k2 _ S2.out (by omega)).mono ?_
  rintro e w1 ⟨v1, k1, rfl, hv1, hk1, hs1, hg1⟩
  obtain ⟨B, ra, rb, rc, rfl, hB, hBw, hR1, ha, hb, hc⟩ := hv1
  have hz1 := hg1.size
  have S1 := Lib.hid hs1
  have G1 := Lib.hid (gTrans G2.out hg1)
  have R1 := Lib.hid hR1
  have L1 := Lib.hid (L2.out.grown (by omega) hg1)
  have HA := Lib.hid (And.intro ha (And.intro hb hc))
  have O1 := Lib.hid ((O2.out.keep (fun q hq => hg1.block q hq.2 (by simp; omega))).more (G := fun q => W0.heap.size ≤ q ∧ q < w1.heap.size) (fun q hq => ⟨hq.1, by omega⟩))
  have hk10 := hs1.nonneg
  clear hs1 hg1 hR1 ha hb hc S2 G2 O2 L2
  go_wp2_with fail
  refine (Takes_c sb B k1 x.title ls sv ra rb rc _ S1.out (by omega) O1.out (fun q hq => ⟨hq.2, by have := hq.1; omega⟩) HL2.out HN2.out HB2.out R1.out HA.out.1 HA.out.2.1 HA.out.2.2 (by omega)).mono ?_
  rintro e w4 ⟨tv, k4, rfl, ⟨tl, hto, hti, htb, htl⟩, hk4, hs4, hg4⟩
  have hz4 := hg4.size
  have hk40 := hs4.nonneg
  have T4 := Lib.hid (TkY.mk' (sb := sb) (B := 300000000) hto (by omega) hti (fun q hq => by
    rcases hq with hq | hq
    · exact hq.elim
    · exact ⟨hq.2.1, by have := hq.1; omega⟩) htb (by omega))
  have S4 := Lib.hid hs4
  have G4 := Lib.hid (gTrans G1.out hg4)
  have L4 := Lib.hid (L1.out.grown (by omega) hg4)
  clear hs4 hg4 hto hti htb S1 G1 O1 L1 R1 HN2 HL2 HB2 HA
  obtain ⟨AT, cT, hv4, _, _⟩ := T4.out.tk.sli.form
  subst hv4
  obtain ⟨M4, hM4⟩ : ∃ q, tl.length = q := ⟨_, rfl⟩
  have HM4 := Lib.hid hM4
  rw [hM4] at T4 htl ⊢
  clear hM4
  go_upto_region 3 with (fail)
  go_cut [30] (fun s30 wx => ∃ (bb : Bool) (n : Int), s30 = .bool bb ∧ (bb = true → 0 < M4) ∧ n ≤ k4 + 1 ∧ Hid (Str wx sb n) ∧ Hid (w4.grownBy wx (some sb)))
  case first =>
    go_wp2_with fail
    refine (flip_c sb k4 3 _ S4.out (by omega) (by omega) (by omega)).mono ?_
    rintro e w5 ⟨v5, k5, rfl, ⟨b5, rfl⟩, hk5, hs5, hg5⟩
    have HH := Lib.hid (And.intro hs5 hg5)
    clear hs5 hg5
    cases b5 with
    | false =>
      go_wp2
      go_meet
      exact ⟨false, k5, rfl, (fun h => by cases h), by omega, HH.out.1, HH.out.2⟩
    | true =>
      by_cases h0 : M4 = 0
      · subst h0
        go_wp2
        go_meet
        exact ⟨false, k5, by first | rfl | simp, (fun h => by cases h), by omega, HH.out.1, HH.out.2⟩
      · have hp : (0 : Int) < (M4 : Int) := by omega
        go_wp2
        go_meet
        exact ⟨true, k5, by first | rfl | (simp; done) | (simp; omega), (fun _ => by omega), by omega, HH.out.1, HH.out.2⟩
  case rest =>
  clear S4
  obtain ⟨b5, k5, rfl, hb5, hk5, S5, Y5⟩ := hcut
  have hz5 := Y5.out.size
  have hk50 := S5.out.nonneg
  have T5 := Lib.hid (T4.out.turn Y5.out)
  have G5 := Lib.hid (gTrans G4.out Y5.out)
  have L5 := Lib.hid (L4.out.grown (by omega) Y5.out)
  clear T4 G4 L4 Y5
  go_upto_if 30 with (fail)
  go_cut [4] (fun s4 wx => ∃ (tl : List (Tk × Value)) (n : Int), n ≤ k5 + 20 ∧ wc.heap.size ≤ wx.heap.size ∧ Hid (TkY 300000010 sb wx tl s4) ∧ Hid (Str wx sb n) ∧ Hid (wc.grownBy wx (some sb)))
  case first =>
    cases b5 with
    | false =>
      go_wp2
      go_meet
      exact ⟨tl, k5, by omega, Nat.le_refl _, ⟨T5.out.tk, fun y hy => (T5.out.bd y hy).more (by omega), T5.out.len⟩, S5.out, gRefl _ _⟩
    | true =>
      have hlp : 0 < M4 := hb5 rfl
      go_wp2_with fail
      refine (SpoiledTakes_c (F := fun q => q < wc.heap.size ∧ q ≠ sb) 300000000 sb k5 tl (.slice AT M4 cT) _ S5.out (by omega) T5.out.tk.sli T5.out.tk.cov (fun q hq => hq) (by rw [HM4.out]; exact hlp) (by rw [HM4.out]; omega) T5.out.bd (by omega) (by omega)).mono ?_
      rintro e w6 ⟨v6, k6, rfl, ⟨l6, hown6, hin6, hb6, hl6, hp6⟩, hk6, hs6, hg6⟩
      have hz6 := hg6.size
      have T6 := Lib.hid (TkY.mk' (sb := sb) (B := 300000010) hown6 (by omega) hin6 (fun q hq => by
        rcases hq with hq | hq
        · exact ⟨by have := hq.1; omega, hq.2⟩
        · exact ⟨hq.2.1, by have := hq.1; omega⟩) hb6 (by rw [HM4.out] at hl6; omega))
      have HH := Lib.hid (And.intro hs6 hg6)
      clear hs6 hg6 hown6 hin6 hb6 hl6 hp6
      go_wp2
      go_meet
      exact ⟨l6, k6, by omega, hz6, T6, HH.out.1, HH.out.2⟩
  case rest =>
  clear T5 S5 hb5 HM4
  obtain ⟨tl, k7, hk7, hz7, T7, S7, Y7⟩ := hcut
  have hk70 := S7.out.nonneg
  have G7 := Lib.hid (gTrans G5.out Y7.out)
  have L7 := Lib.hid (L5.out.grown (by omega) Y7.out)
  clear Y7 G5 L5
  obtain ⟨A7, c7, hv7, _, _⟩ := T7.out.tk.sli.form
  subst hv7
  obtain ⟨M7, hM7⟩ : ∃ q, tl.length = q := ⟨_, rfl⟩
  rw [hM7] at T7
  rw [hM7]
  clear hM7
  have HPT := Lib.hid (PrintTakes_c tl (.slice A7 M7 c7) wc T7.out.tk L7.out.pow)
  go_wp2_with fail
  refine HPT.out.mono ?_
  rintro e w8 ⟨rfl, hb8⟩
  have hz8 := hb8.size
  have T8 := Lib.hid (T7.out.below hb8)
  have S8 := Lib.hid (S7.out.below hb8)
  have G8 := Lib.hid (gBelow G7.out hb8)
  have L8 := Lib.hid (L7.out.below hb8 (by omega))
  clear hb8 HPT T7 S7 G7 L7
  have HTF := Lib.hid (TellTakesFault_c tl (.slice A7 M7 c7) w8 T8.out.tk)
  go_wp2_with fail
  refine HTF.out.mono ?_
  rintro e w9 ⟨rfl, hb9⟩
  have hz9 := hb9.size
  have T9 := Lib.hid (T8.out.below hb9)
  have S9 := Lib.hid (S8.out.below hb9)
  have G9 := Lib.hid (gBelow G8.out hb9)
  have L9 := Lib.hid (L8.out.below hb9 (by omega))
  clear hb9 HTF T8 S8 G8 L8
  have HPV := Lib.hid (show ptV (tl.map (·.1)) = if ¬ tksE (tl.map (·.1)) = 0 then (⟨#[]⟩, tksE (tl.map (·.1))) else if 200000 < (takesX (tl.map (·.1))).size then (⟨#[]⟩, 2) else (takesX (tl.map (·.1)), 0) from rfl)
  have HTS := Lib.hid (fun h => T9.out.tsz h)
  obtain ⟨te, hte⟩ : ∃ te, tksE (tl.map (·.1)) = te := ⟨_, rfl⟩
  have HTE := Lib.hid hte
  obtain ⟨TX, hTX⟩ : ∃ TX, takesX (tl.map (·.1)) = TX := ⟨_, rfl⟩
  have HTX := Lib.hid hTX
  obtain ⟨p1, hp1⟩ : ∃ p1, (ptV (tl.map (·.1))).1 = p1 := ⟨_, rfl⟩
  obtain ⟨p2, hp2⟩ : ∃ p2, (ptV (tl.map (·.1))).2 = p2 := ⟨_, rfl⟩
  have HP2 := Lib.hid (show p2 = te by
    rw [← hp2, HPV.out, hte, hTX]
    by_cases h : te = 0
    · rw [if_neg (fun hh => hh h), if_neg (by have := HTS.out (hte.trans h); rw [hTX] at this; omega), h]
    · rw [if_pos h])
  have HP1 := Lib.hid (show te = 0 → p1 = TX from fun h => by
    rw [← hp1, HPV.out, hte, hTX, if_neg (fun hh => hh h), if_neg (by have := HTS.out (hte.trans h); rw [hTX] at this; omega)])
  rw [hp1, hp2, hte]
  obtain rfl : p2 = te := HP2.out
  clear hte hTX hp1 hp2 HPV HTS HP2
  go_upto_region 7 with (fail)
  go_cut [53] (fun s53 wx => s53 = .bool false ∧ w9.heap.size ≤ wx.heap.size ∧ Hid (Below w9.heap.size w9 wx))
  case first =>
    have hee : (p2 != p2) = false := by simp
    by_cases h0 : p2 = 0
    · have HE0 := Lib.hid (HTE.out.trans h0)
      have e1 : (p2 == 0) = true := beq_iff_eq.2 h0
      have e2 : (p1.toList == TX.toList) = true := by rw [HP1.out h0]; exact beq_self_eq_true _
      have HTT := Lib.hid (TakesText_c tl (.slice A7 M7 c7) w9 T9.out.tk HE0.out L9.out.pow)
      rw [HTX.out] at HTT
      clear h0
      go_wp2_with fail
      refine HTT.out.mono ?_
      rintro e w10 ⟨rfl, hb10⟩
      have HH := Lib.hid hb10
      clear hb10
      go_wp2
      go_meet
      exact ⟨by first | rfl | simp, HH.out.size, HH.out⟩
    · have hne : (p2 == 0) = false := beq_eq_false_iff_ne.2 h0
      clear h0
      go_wp2
      go_meet
      exact ⟨by first | rfl | simp, Nat.le_refl _, Below.refl _ _⟩
  case rest =>
  obtain ⟨rfl, hz10, HB10⟩ := hcut
  have S10 := Lib.hid (S9.out.below HB10.out)
  have G10 := Lib.hid (gBelow G9.out HB10.out)
  have L10 := Lib.hid (L9.out.below HB10.out (by omega))
  clear T9 S9 G9 L9 HB10 HP1 HTE HTX
  go_wp2_with fail
  refine (GTakesText_c sb k7 _ S10.out (by omega) L10.out).mono ?_
  rintro e w11 ⟨v11, k11, rfl, ⟨t, ht, rfl⟩, hk11, hs11, hg11⟩
  have hz11 := hg11.size
  have G11 := Lib.hid (gTrans G10.out hg11)
  have L11 := Lib.hid (L10.out.grown (by omega) hg11)
  have hts : t.size ≤ 200000000 := ht
  clear hs11 hg11 ht S10 G10 L10
  have HPA := Lib.hid (ParseTakes_c t w11 (by omega) L11.out.errs (HX.out _ G11.out).2)
  go_wp2_with fail
  refine HPA.out.mono ?_
  rintro e w12 ⟨v12, l12, rfl, hl12, ht12, hb12⟩
  have hz12 := hb12.size
  have G12 := Lib.hid (gBelow G11.out hb12)
  have L12 := Lib.hid (L11.out.below hb12 (by omega))
  have HT12 := Lib.hid ht12
  have HL12 := Lib.hid hl12
  clear hb12 ht12 hl12 HPA G11 L11
  have HFR := Lib.hid (TakesFrom_c t w12 (by omega) L12.out.errs L12.out.pow (HX.out _ G12.out).2)
  go_wp2_with fail
  refine HFR.out.mono ?_
  rintro e w13 ⟨v13, l13, rfl, hl13, ht13, hb13⟩
  have hz13 := hb13.size
  have G13 := Lib.hid (gBelow G12.out hb13)
  have HT13 := Lib.hid (show TkW w13 (fun q => q < w13.heap.size) l13 v13 from ht13.go (fun q hq => rfl) (fun q hq => hq.2) (fun q hq => hq))
  have HT14 := Lib.hid (show TkW w13 (fun q => q < w13.heap.size) l12 v12 from HT12.out.go (fun q hq => hb13.block q hq.2) (fun q hq => by have := hq.2; omega) (fun q hq => hq))
  have HSM := Lib.hid (hl13.trans HL12.out.symm)
  clear hb13 ht13 hl13 HFR G12 L12 HT12 HL12
  obtain ⟨A12, c12, hv12, _, _⟩ := HT14.out.sli.form
  subst hv12
  obtain ⟨A13, c13, hv13, _, _⟩ := HT13.out.sli.form
  subst hv13
  obtain ⟨n12, hn12⟩ : ∃ n, l12.length = n := ⟨_, rfl⟩
  obtain ⟨n13, hn13⟩ : ∃ n, l13.length = n := ⟨_, rfl⟩
  rw [hn12] at HT14 ⊢
  rw [hn13] at HT13 ⊢
  clear hn12 hn13
  generalize (tkParse t).line = pn at *
  generalize (tkParse t).err = pe at *
  have e1 : (pe == pe) = true := beq_self_eq_true _
  have e2 : (pn == pn) = true := beq_self_eq_true _
  go_wp2_with fail
  refine (takes_c _).mono ?_
  rintro e w14 ⟨rfl, hb14⟩
  have G14 := Lib.hid (gBelow G13.out hb14)
  have X14 := Lib.hid (HT14.out.below hb14)
  have Y14 := Lib.hid (HT13.out.below hb14)
  clear hb14 G13 HT13 HT14
  have HST := Lib.hid (SameTakes_c l12 l13 _ _ w14 X14.out Y14.out HSM.out.symm)
  go_wp2_with fail
  refine HST.out.mono ?_
  rintro e w15 ⟨rfl, hb15⟩
  have HE := Lib.hid (HX.out _ (gBelow G14.out hb15)).1
  clear hb15 HST
  go_wp2
  go_ret
  exact ⟨rfl, by rw [HSB.out]; exact HE.out⟩
end Go.Proofs.YtihkkaeoijheoaaGreatDoor

