/- Texts packed: LawTakeCovers. -/
import Derived.Test.YtmefjkfjpgblcaaGreatDoorRows
import Derived.Test.YtmefjkfjpgblcaaGreatDoorSc05
import Derived.Test.YtmefjkfjpgblcaaGreatDoorSc28
import Derived.Test.YtmefjkfjpgblcaaGreatDoorSc31
import Derived.Test.YtmefjkfjpgblcaaGreatDoorSc30
import Derived.Test.YtmefjkfjpgblcaaGreatDoorSc40
import Derived.Test.YtmefjkfjpgblcaaGreatDoorSc38
import Derived.Test.YtmefjkfjpgblcaaGreatDoorSc19
import Derived.Test.YtmefjkfjpgblcaaGreatDoorSc02
import Derived.Deep.DeepCutAuto
/- The law TakeCovers walked: for every list of numbers it returns true and leaves what was there. -/
namespace Go.Proofs.YtmefjkfjpgblcaaGreatDoor
set_option linter.unusedVariables false
open Go.RowKit Go.Sort

set_option maxRecDepth 100000 in
set_option maxHeartbeats 8000000 in
theorem TakeCovers_c (A : Option Addr) (l : List Int) (c : Nat) (w : World) (hr : Rs w 0 w.heap.size 1 intc A l) (hl : l.length ≤ 17592186044416) (ho : ∀ x ∈ l, okI x) (he : ErrsLaid w) (hp : PowLaid w) (hs : SpLaid w) (hm : MaxLaid w) :
    Calls Tryz.prog 6 #[.slice A l.length c] w fun e w' => e = .returned (.bool true) ∧ Below w.heap.size w w' := by
  have S0 := strNew w A l c hr hl ho
  have HL := LaidS.start he hp
  have L0 := HL.alloc (Nat.le_refl _) (.cells #[.slice A l.length c, .int .i64 0] 25)
  have hW0 : (w.alloc (.cells #[.slice A l.length c, .int .i64 0] 25)).heap.size = w.heap.size + 1 := by simp
  have HX := Lib.hid (fun (w1 : World) (h : (w.alloc (.cells #[.slice A l.length c, .int .i64 0] 25)).grownBy w1 (some w.heap.size)) => show Below w.heap.size w w1 ∧ SpLaid w1 ∧ MaxLaid w1 from ⟨gEnd h, sp_below hs (gEnd h) (Nat.le_refl _), max_below hm (gEnd h) (Nat.le_refl _)⟩)
  clear hr ho he hp hs hm HL
  go_enter Tryz.func6, Tryz.ntmps6
  go_upto_region 2 with (fail)
  generalize w.alloc (.cells #[.slice A l.length c, .int .i64 0] 25) = W0 at *
  have S0 := Lib.hid S0
  have L0 := Lib.hid L0
  generalize hsb : w.heap.size = sb at *
  have HSB := Lib.hid hsb
  have hlt0 : sb < W0.heap.size := by omega
  clear hsb hW0
  go_wp2_with fail
  refine (story_c sb 0 _ S0.out (by omega) L0.out).mono ?_
  rintro e w2 ⟨v2, k2, rfl, ⟨t, ls, sv, rfl, hsl, hin, htz, hll, hbd⟩, hk2, hs2, hg2⟩
  have hz2 := hg2.size
  have S2 := Lib.hid hs2
  have G2 := Lib.hid hg2
  have hF2 : ∀ q, SpG (fun _ => False) W0 w2 q → W0.heap.size ≤ q ∧ q < w2.heap.size := fun q hq => by
    rcases hq with h | h
    · exact h.elim
    · exact h
  have O2 := Lib.hid (hsl.more hF2)
  have I2 := Lib.hid (show ∀ y ∈ ls, Sli paraR w2 (fun q => W0.heap.size ≤ q ∧ q < w2.heap.size) y.1.paras y.2 from fun y hy => (hin y hy).more hF2)
  have HBD := Lib.hid hbd
  have hk20 := hs2.nonneg
  obtain ⟨AS, cS, hv, _, _⟩ := hsl.form
  subst hv
  clear hs2 hg2 hsl hin hbd hF2 S0 L0
  go_wp2_with fail
  refine (Rolls_c sb k2 _ S2.out (by omega)).mono ?_
  rintro e w1 ⟨v1, k1, rfl, hv1, hk1, hs1, hg1⟩
  obtain ⟨B, ra, rb, rc, rfl, hB, hBw, hR1, ha, hb, hc⟩ := hv1
  have hz1 := hg1.size
  have hk10 := hs1.nonneg
  have HA := Lib.hid (And.intro ha (And.intro hb hc))
  obtain ⟨n, hn⟩ : ∃ n, ls.length = n := ⟨_, rfl⟩
  have HN := Lib.hid hn
  have hll2 : n ≤ 91 := by omega
  rw [show xCs t (.slice AS ls.length cS) = #[.string t, .slice AS n cS] by rw [hn]; rfl]
  have hG3 := gAlloc (gTrans G2.out hg1) (.cells #[.string t, .slice AS n cS] 44)
  have hS3 := hs1.alloc (.cells #[.string t, .slice AS n cS] 44)
  have hR3 := hR1.alloc (.cells #[.string t, .slice AS n cS] 44)
  have hX3 := heap_alloc_new w1 (.cells #[.string t, .slice AS n cS] 44)
  have hz3 : (w1.alloc (.cells #[.string t, .slice AS n cS] 44)).heap.size = w1.heap.size + 1 := by simp
  have hO3 : Sli svR (w1.alloc (.cells #[.string t, .slice AS n cS] 44)) (fun q => W0.heap.size ≤ q ∧ q < w2.heap.size) ls (.slice AS n cS) := by
    rw [← hn]
    exact (O2.out.keep (fun q hq => hg1.block q hq.2 (by simp; omega))).keep (fun q hq => Below.heap_alloc w1 _ q (by omega))
  have hI3 : ∀ y ∈ ls, Sli paraR (w1.alloc (.cells #[.string t, .slice AS n cS] 44)) (fun q => W0.heap.size ≤ q ∧ q < w2.heap.size) y.1.paras y.2 := fun y hy => ((I2.out y hy).keep (fun q hq => hg1.block q hq.2 (by simp; omega))).keep (fun q hq => Below.heap_alloc w1 _ q (by omega))
  go_upto_region 3 with (fail)
  generalize hW3 : w1.alloc (.cells #[.string t, .slice AS n cS] 44) = w3 at *
  have hXw : w2.heap.size ≤ w1.heap.size := by omega
  generalize w1.heap.size = X at *
  have HF := Lib.hid (fun (W : World) (hg : w3.grownBy W (some sb)) => show ScL W (fun q => W0.heap.size ≤ q ∧ q < w2.heap.size) t ls (.slice AS n cS) ∧ (W.cell? ⟨X, 0, none⟩ = some (.string t) ∧ W.cell? ⟨X, 1, none⟩ = some (.slice AS n cS)) ∧ RollsBlk W B ra rb rc from by
    have hgs := hg.size
    refine ⟨⟨hO3.keep (fun q hq => hg.block q (by have := hq.2; omega) (by simp; omega)), fun y hy => (hI3 y hy).keep (fun q hq => hg.block q (by have := hq.2; omega) (by simp; omega)), fun q hq => by have := hq.2; omega, by omega, by omega, fun y hy => ?_⟩, ?_, hR3.grown hg (by omega)⟩
    · obtain ⟨b1, b2, b3, b4⟩ := HBD.out y hy
      exact ⟨by omega, by omega, by omega, fun p hp => Nat.le_trans (b4 p hp) (by decide)⟩
    · have hb : W.heap[X]? = some (.cells #[.string t, .slice AS n cS] 44 (0, 0)) := (hg.block X (by omega) (by simp; omega)).trans hX3
      obtain ⟨y, _⟩ := str_cells hb
      exact ⟨y 0, y 1⟩)
  have G3 := Lib.hid hG3
  have S3 := Lib.hid hS3
  clear hG3 hS3 hR3 hX3 hO3 hI3 hW3 hs1 hg1 hR1 ha hb hc S2 G2 O2 I2 hn
  obtain ⟨hsc, ⟨x0, x1⟩, hrb⟩ := HF.out w3 (gRefl _ _)
  have HTK := Lib.hid (TakesG_c (F := fun q => W0.heap.size ≤ q ∧ q < w2.heap.size) sb B k1 t ls (.slice AS n cS) ra rb rc w3 S3.out (by omega) hsc.sli (fun q hq => ⟨by have := hq.2; omega, by have := hq.1; omega⟩) (by rw [HN.out]; omega) (fun y hy => by
    obtain ⟨A, c, e, _⟩ := (hsc.par y hy).form
    exact ⟨A, c, e⟩) (fun y hy => ⟨(HBD.out y hy).1, (HBD.out y hy).2.2.1⟩) hrb HA.out.1 HA.out.2.1 HA.out.2.2 (by omega))
  rw [show xCs t (.slice AS n cS) = #[.string t, .slice AS n cS] from rfl] at HTK
  clear hsc hrb
  go_wp2_with fail
  refine HTK.out.mono ?_
  rintro e w4 ⟨tv, k4, rfl, ⟨tl, hto, hti, htb, htl⟩, hk4, hs4, hg4⟩
  have hz4 := hg4.size
  have hk40 := hs4.nonneg
  have T4 := Lib.hid (TkY.mk' (sb := sb) (B := 300000000) hto (by omega) hti (fun q hq => by
    rcases hq with hq | hq
    · exact hq.elim
    · exact ⟨hq.2.1, by have := hq.1; omega⟩) htb (by omega))
  have S4 := Lib.hid hs4
  have X4 := Lib.hid hg4
  clear hs4 hg4 hto hti htb S3 x0 x1 HTK
  obtain ⟨AT, cT, hv4, _, _⟩ := T4.out.tk.sli.form
  subst hv4
  obtain ⟨M4, hM4⟩ : ∃ q, tl.length = q := ⟨_, rfl⟩
  have HM4 := Lib.hid hM4
  rw [hM4] at T4 htl ⊢
  clear hM4
  go_upto_region 4 with (fail)
  obtain ⟨hsc, ⟨x0, x1⟩, _⟩ := HF.out w4 X4.out
  have HOF := Lib.hid (OfG_c (F := fun q => W0.heap.size ≤ q ∧ q < w2.heap.size) sb k4 t ls (.slice AS n cS) w4 S4.out (by omega) hsc.sli (fun q hq => ⟨by have := hq.2; omega, by have := hq.1; omega⟩) (by rw [HN.out]; omega) (fun y hy => (HBD.out y hy).1))
  rw [show xCs t (.slice AS n cS) = #[.string t, .slice AS n cS] from rfl] at HOF
  clear hsc
  go_wp2_with fail
  refine HOF.out.mono ?_
  rintro e w5 ⟨v5, k5, rfl, ⟨no, hno, rfl⟩, hk5, hs5, hg5⟩
  have T5 := Lib.hid (T4.out.turn hg5)
  have Y5 := Lib.hid (gTrans X4.out hg5)
  have G5 := Lib.hid (gTrans G3.out (gTrans X4.out hg5))
  clear hs5 hg5 HOF T4 S4 X4 G3 x0 x1
  have hNN : ls.length ≤ 100000 := by rw [HN.out]; omega
  have hPP : ∀ y ∈ ls, y.1.paras.length ≤ 1000 := fun y hy => Nat.le_trans (HBD.out y hy).2.2.1 (by decide)
  have hL3 : tl.length ≤ 3000 := by rw [HM4.out]; omega
  have HW := Lib.hid (fun (W : World) (hb : Below w5.heap.size w5 W) => show (ScL W (fun q => W0.heap.size ≤ q ∧ q < w2.heap.size) t ls (.slice AS n cS) ∧ (W.cell? ⟨X, 0, none⟩ = some (.string t) ∧ W.cell? ⟨X, 1, none⟩ = some (.slice AS n cS)) ∧ RollsBlk W B ra rb rc) ∧ TkW W (fun q => q < W.heap.size ∧ q ≠ sb) tl (.slice AT M4 cT) ∧ (Below w.heap.size w W ∧ SpLaid W ∧ MaxLaid W) from
    ⟨HF.out W (gBelow Y5.out hb), (T5.out.below hb).tk, by
      have h := HX.out W (gBelow G5.out hb)
      rw [HSB.out]; exact h⟩)
  have HBB : B < w5.heap.size := by have := Y5.out.size; omega
  have HNM := Lib.hid (show ∀ r ∈ [ra, rb, rc], r.name.size ≤ 140737488355328 from fun r hr => by
    have h : r.name.size ≤ 1000 := by
      simp at hr
      rcases hr with rfl | rfl | rfl
      · exact HA.out.1.1
      · exact HA.out.2.1.1
      · exact HA.out.2.2.1
    omega)
  have HRS := Lib.hid (fun (W : World) (hb : Below w5.heap.size w5 W) => (HW.out W hb).1.2.2.rs 0 W.heap.size (Nat.zero_le _) (Nat.lt_of_lt_of_le HBB hb.size))
  have HPP := Lib.hid hPP
  have hC0 := fun (W : World) (hb : Below w5.heap.size w5 W) => TakesFault_c t ls (.slice AS n cS) (some ⟨B, 0, none⟩) [ra, rb, rc] 3 0 tl (.slice AT M4 cT) W (HW.out W hb).1.1 (HRS.out W hb) (by simp) (by simp) (by omega) HNM.out (HW.out W hb).2.1 (HW.out W hb).2.2.2.1 (HW.out W hb).2.2.2.2
  have hC1 := fun (W : World) (hb : Below w5.heap.size w5 W) => Coverage_c t ls (.slice AS n cS) (some ⟨B, 0, none⟩) [ra, rb, rc] 3 0 tl (.slice AT M4 cT) no W (HW.out W hb).1.1 (HRS.out W hb) (by simp) HNM.out (HW.out W hb).2.1 (HW.out W hb).2.2.2.2 hNN
  have hC2 := fun (W : World) (hb : Below w5.heap.size w5 W) => Missing_c t ls (.slice AS n cS) (some ⟨B, 0, none⟩) [ra, rb, rc] 3 0 tl (.slice AT M4 cT) W (HW.out W hb).1.1 (HRS.out W hb) (by simp) HNM.out (HW.out W hb).2.1 (HW.out W hb).2.2.2.2 hNN HPP.out
  have hC3 := fun (W : World) (hb : Below w5.heap.size w5 W) => Usages_c t ls (.slice AS n cS) (some ⟨B, 0, none⟩) [ra, rb, rc] 3 0 tl (.slice AT M4 cT) W (HW.out W hb).1.1 (HRS.out W hb) (by simp) HNM.out (HW.out W hb).2.1 (HW.out W hb).2.2.2.2
  rw [show [ra, rb, rc].length = 3 from rfl] at hC0 hC1 hC2 hC3
  have HC0 := Lib.hid hC0
  have HC1 := Lib.hid hC1
  have HC2 := Lib.hid hC2
  have HC3 := Lib.hid hC3
  have HR1 := Lib.hid (fun (hok : CvOk (ls.map fun (y : Scene × Value) => y.1) (tl.map (·.1))) (W : World) (hb : Below w5.heap.size w5 W) => MissingOf_c t ls (.slice AS n cS) tl (.slice AT M4 cT) W (HW.out W hb).1.1 (HW.out W hb).2.1 hok hNN HPP.out hL3)
  have hR2 := fun (hbd : InBd (tl.map (·.1))) (W : World) (hb : Below w5.heap.size w5 W) => UsagesOf_c (some ⟨B, 0, none⟩) [ra, rb, rc] 3 0 tl (.slice AT M4 cT) W (HRS.out W hb) (by simp) (HW.out W hb).2.1 hbd hL3
  rw [show [ra, rb, rc].length = 3 from rfl] at hR2
  have HR2 := Lib.hid hR2
  have HR3 := Lib.hid (fun (hok : CvOk (ls.map fun (y : Scene × Value) => y.1) (tl.map (·.1))) (i : Nat) (hi : i < ls.length) (W : World) (hb : Below w5.heap.size w5 W) => CoverageOf_c t ls (.slice AS n cS) tl (.slice AT M4 cT) i W (HW.out W hb).1.1 (HW.out W hb).2.1 hok hi hL3)
  have HR4 := Lib.hid (fun (hn : ∀ y ∈ ls, ¬ y.1.no = ⟨#[]⟩) (W : World) (hb : Below w5.heap.size w5 W) => SceneAt_c t ls (.slice AS n cS) no W (HW.out W hb).1.1 hn)
  clear hC0 hC1 hC2 hC3 hR2 T5 HF HX Y5 G5 hNN hPP hL3
  have B5 := Lib.hid (Below.refl w5.heap.size w5)
  obtain ⟨x0, x1⟩ := (HW.out w5 B5.out).1.2.1
  go_wp2_with fail
  refine (HC0.out w5 B5.out).mono ?_
  rintro e w6 ⟨rfl, hb6⟩
  have B6 := Lib.hid (B5.out.trans hb6)
  clear hb6 HC0 x0 x1 B5
  obtain ⟨x0, x1⟩ := (HW.out w6 B6.out).1.2.1
  go_wp2_with fail
  refine (HC1.out w6 B6.out).mono ?_
  rintro e w7 ⟨cv, rfl, hoc, hb7⟩
  have B7 := Lib.hid (B6.out.trans (hb7.mono B6.out.size))
  have OC := Lib.hid (show Sli cvdR w7 (fun q => q < w7.heap.size) _ cv from hoc.sliF (fun q hq => (hoc.block q hq).2))
  clear hb7 hoc HC1 x0 x1 B6
  obtain ⟨AC, cC, hcv, _, _⟩ := OC.out.form
  subst hcv
  generalize hcvl : (covgL ⟨t, ls.map (fun (y : Scene × Value) => y.1)⟩ [ra, rb, rc] (tl.map (·.1)) no) = cvl at *
  have HCVL := Lib.hid hcvl
  obtain ⟨ncv, hncv⟩ : ∃ m, cvl.length = m := ⟨_, rfl⟩
  rw [hncv] at OC ⊢
  clear hcvl hncv
  obtain ⟨x0, x1⟩ := (HW.out w7 B7.out).1.2.1
  go_wp2_with fail
  refine (HC2.out w7 B7.out).mono ?_
  rintro e w8 ⟨mv, rfl, hom, hb8⟩
  have B8 := Lib.hid (B7.out.trans (hb8.mono B7.out.size))
  have OM := Lib.hid (show Sli spoR w8 (fun q => q < w8.heap.size) _ mv from hom.sliF (fun q hq => (hom.block q hq).2))
  have OC8 := Lib.hid (OC.out.below hb8 (fun _ h => h))
  have hz78 := hb8.size
  clear hb8 hom HC2 x0 x1 B7 OC
  obtain ⟨AM, cM, hmv, _, _⟩ := OM.out.form
  subst hmv
  generalize hmvl : (misL ⟨t, ls.map (fun (y : Scene × Value) => y.1)⟩ [ra, rb, rc] (tl.map (·.1))) = mvl at *
  have HMVL := Lib.hid hmvl
  obtain ⟨nmv, hnmv⟩ : ∃ m, mvl.length = m := ⟨_, rfl⟩
  rw [hnmv] at OM ⊢
  clear hmvl hnmv
  obtain ⟨x0, x1⟩ := (HW.out w8 B8.out).1.2.1
  go_wp2_with fail
  refine (HC3.out w8 B8.out).mono ?_
  rintro e w9 ⟨uv, rfl, hou, hb9⟩
  have B9 := Lib.hid (B8.out.trans (hb9.mono B8.out.size))
  have OU := Lib.hid (show Sli usgR w9 (fun q => q < w9.heap.size) _ uv from hou.sliF (fun q hq => (hou.block q hq).2))
  have OM9 := Lib.hid (OM.out.below hb9 (fun _ h => h))
  have OC9 := Lib.hid (OC8.out.below hb9 (fun q hq => by omega))
  have hz89 := hb9.size
  clear hb9 hou HC3 x0 x1 B8 OM OC8
  obtain ⟨AU, cU, huv, _, _⟩ := OU.out.form
  subst huv
  generalize huvl : (usgE ⟨t, ls.map (fun (y : Scene × Value) => y.1)⟩ [ra, rb, rc] (tl.map (·.1))) = uvl at *
  have HUVL := Lib.hid huvl
  obtain ⟨nuv, hnuv⟩ : ∃ m, uvl.length = m := ⟨_, rfl⟩
  rw [hnuv] at OU ⊢
  clear huvl hnuv
  have hcg : covgE ⟨t, ls.map (fun (y : Scene × Value) => y.1)⟩ [ra, rb, rc] (tl.map (·.1)) no = if ¬ tksChk ⟨t, ls.map (fun (y : Scene × Value) => y.1)⟩ [ra, rb, rc] (tl.map (·.1)) = 0 then tksChk ⟨t, ls.map (fun (y : Scene × Value) => y.1)⟩ [ra, rb, rc] (tl.map (·.1)) else match scnIdx (ls.map fun (y : Scene × Value) => y.1) no with
    | none => 8
    | some _ => 0 := rfl
  obtain ⟨ce, hce⟩ : ∃ ce, tksChk ⟨t, ls.map (fun (y : Scene × Value) => y.1)⟩ [ra, rb, rc] (tl.map (·.1)) = ce := ⟨_, rfl⟩
  have HCE := Lib.hid hce
  rw [hce] at hcg ⊢
  clear hce
  by_cases h0 : ce = 0
  case neg =>
    rw [hcg, if_pos h0]
    have hne : (ce != 0) = true := by rw [bne_iff_ne]; exact h0
    have e1 : (ce == ce) = true := beq_self_eq_true _
    clear h0 hcg
    go_wp2_with fail
    refine (takes_c _).mono ?_
    rintro e w10 ⟨rfl, hb10⟩
    have HE := Lib.hid (HW.out w10 (B9.out.trans (hb10.mono B9.out.size))).2.2.1
    clear hb10
    go_wp2
    go_ret
    exact ⟨rfl, HE.out⟩
  subst h0
  rw [if_neg (fun h => h rfl)] at hcg
  have HCG := Lib.hid hcg
  clear hcg
  have HOK := Lib.hid (CvOk.of HCE.out)
  have HIB := Lib.hid (InBd.of HCE.out)
  have HNE := Lib.hid (show ∀ y ∈ ls, ¬ y.1.no = ⟨#[]⟩ from fun y hy => (stE_dis (tksChk_ok HCE.out).1).1 _ (List.mem_map_of_mem hy))
  have HM2 := Lib.hid (show missL (ls.map fun (y : Scene × Value) => y.1) (tl.map (·.1)) = mvl by rw [← HMVL.out]; unfold misL; rw [if_neg (fun k => k HCE.out)])
  have HU2 := Lib.hid (show usgL [ra, rb, rc] (tl.map (·.1)) = uvl by rw [← HUVL.out]; unfold usgE; rw [if_neg (fun k => k HCE.out)])
  obtain ⟨x0, x1⟩ := (HW.out w9 B9.out).1.2.1
  go_upto_region 11 with (fail)
  have HMO := Lib.hid (HR1.out HOK.out w9 B9.out)
  go_wp2_with fail
  refine HMO.out.mono ?_
  rintro e w10 ⟨mv2, rfl, hom, hb10⟩
  rw [HM2.out] at hom
  have B10 := Lib.hid (B9.out.trans (hb10.mono B9.out.size))
  have OM2 := Lib.hid (show Sli spoR w10 (fun q => q < w10.heap.size) mvl mv2 from hom.sliF (fun q hq => (hom.block q hq).2))
  have OM10 := Lib.hid ((OM9.out.below hb10 (fun q hq => by omega)).more (G := fun q => q < w10.heap.size) (fun q hq => by have := hb10.size; omega))
  have OC10 := Lib.hid (OC9.out.below hb10 (fun q hq => by omega))
  have OU10 := Lib.hid (OU.out.below hb10 (fun _ h => h))
  have hz9 := hb10.size
  clear hb10 hom HMO HR1 x0 x1 OM9 OC9 OU
  obtain ⟨AM2, cM2, hmv, _, _⟩ := OM2.out.form
  subst hmv
  have HEQ := Lib.hid (eqSpo_c mvl _ _ (fun q => q < w10.heap.size) w10 OM10.out OM2.out (fun b h => h))
  go_wp2_with fail
  refine HEQ.out.mono ?_
  rintro e w11 ⟨rfl, hb11⟩
  have B11 := Lib.hid (B10.out.trans (hb11.mono B10.out.size))
  have OC11 := Lib.hid (OC10.out.below hb11 (fun q hq => by omega))
  have OU11 := Lib.hid (OU10.out.below hb11 (fun q hq => by omega))
  have hz10 := hb11.size
  clear hb11 HEQ OM10 OM2 OC10 OU10 B9
  have HUO := Lib.hid (HR2.out HIB.out w11 B11.out)
  go_wp2_with fail
  refine HUO.out.mono ?_
  rintro e w12 ⟨uv2, rfl, hou, hb12⟩
  rw [HU2.out] at hou
  have B12 := Lib.hid (B11.out.trans (hb12.mono B11.out.size))
  have OU2 := Lib.hid (show Sli usgR w12 (fun q => q < w12.heap.size) uvl uv2 from hou.sliF (fun q hq => (hou.block q hq).2))
  have OU12 := Lib.hid ((OU11.out.below hb12 (fun q hq => by omega)).more (G := fun q => q < w12.heap.size) (fun q hq => by have := hb12.size; omega))
  have OC12 := Lib.hid (OC11.out.below hb12 (fun q hq => by omega))
  have hz11 := hb12.size
  clear hb12 hou HUO HR2 OU11 OC11 B10
  obtain ⟨AU2, cU2, huv, _, _⟩ := OU2.out.form
  subst huv
  have HEQ := Lib.hid (eqUsg_c uvl _ _ (fun q => q < w12.heap.size) w12 OU12.out OU2.out (fun b h => h))
  go_wp2_with fail
  refine HEQ.out.mono ?_
  rintro e w13 ⟨rfl, hb13⟩
  have B13 := Lib.hid (B12.out.trans (hb13.mono B12.out.size))
  have OC13 := Lib.hid (OC12.out.below hb13 (fun q hq => by omega))
  have hz12 := hb13.size
  clear hb13 HEQ OU12 OU2 OC12 B11
  obtain ⟨x0, x1⟩ := (HW.out w13 B13.out).1.2.1
  go_upto_region 13 with (fail)
  have HSA := Lib.hid (HR4.out HNE.out w13 B13.out)
  obtain ⟨o, ho⟩ : ∃ o, scnIdx (ls.map fun (y : Scene × Value) => y.1) no = o := ⟨_, rfl⟩
  have HSI := Lib.hid ho
  rw [ho] at HSA HCG
  clear ho
  cases o with
  | none =>
    have hcg := HCG.out
    dsimp only at hcg
    rw [hcg]
    go_wp2_with fail
    refine HSA.out.mono ?_
    rintro e w14 ⟨rfl, hb14⟩
    have B14 := Lib.hid (B13.out.trans (hb14.mono B13.out.size))
    rw [show idxV none = -1 from rfl]
    clear hb14 HSA x0 x1 hcg HCG
    go_wp2_with fail
    refine (takes_c _).mono ?_
    rintro e w15 ⟨rfl, hb15⟩
    have HE := Lib.hid (HW.out w15 (B14.out.trans (hb15.mono B14.out.size))).2.2.1
    clear hb15
    go_wp2
    go_ret
    exact ⟨rfl, HE.out⟩
  | some i =>
    have hcg := HCG.out
    dsimp only at hcg
    rw [hcg]
    have HCL := Lib.hid (show coverL (ls.map fun (y : Scene × Value) => y.1) (tl.map (·.1)) i = cvl by
      rw [← HCVL.out]
      unfold covgL
      rw [if_neg (fun k => k HCE.out)]
      show _ = (match scnIdx (ls.map fun (y : Scene × Value) => y.1) no with | none => [] | some k => coverL (ls.map fun (y : Scene × Value) => y.1) (tl.map fun (y : Tk × Value) => y.1) k)
      rw [HSI.out])
    have hil : i < ls.length := by
      obtain ⟨hj, _⟩ := scnIdx_some HSI.out
      rw [List.length_map] at hj
      exact hj
    have hi0 : ¬ ((i : Int) < 0) := by omega
    go_wp2_with fail
    refine HSA.out.mono ?_
    rintro e w14 ⟨rfl, hb14⟩
    have B14 := Lib.hid (B13.out.trans (hb14.mono B13.out.size))
    have OC14 := Lib.hid (OC13.out.below hb14 (fun q hq => by omega))
    have hz13 := hb14.size
    rw [show idxV (some i) = (i : Int) from rfl]
    clear hb14 HSA x0 x1 hcg HCG OC13 B13 B12
    go_wp2_with fail
    refine (takes_c _).mono ?_
    rintro e w15 ⟨rfl, hb15⟩
    have B15 := Lib.hid (B14.out.trans (hb15.mono B14.out.size))
    have OC15 := Lib.hid (OC14.out.below hb15 (fun q hq => by omega))
    have hz14 := hb15.size
    obtain ⟨x0, x1⟩ := (HW.out w15 B15.out).1.2.1
    have HCO := Lib.hid (HR3.out HOK.out i hil w15 B15.out)
    clear hb15 OC14 B14
    go_wp2_with fail
    refine HCO.out.mono ?_
    rintro e w16 ⟨cv2, rfl, hoc, hb16⟩
    rw [HCL.out] at hoc
    have B16 := Lib.hid (B15.out.trans (hb16.mono B15.out.size))
    have OC2 := Lib.hid (show Sli cvdR w16 (fun q => q < w16.heap.size) cvl cv2 from hoc.sliF (fun q hq => (hoc.block q hq).2))
    have OC16 := Lib.hid ((OC15.out.below hb16 (fun q hq => by omega)).more (G := fun q => q < w16.heap.size) (fun q hq => by have := hb16.size; omega))
    clear hb16 hoc HCO x0 x1 OC15
    obtain ⟨AC2, cC2, hcv, _, _⟩ := OC2.out.form
    subst hcv
    have HEQ := Lib.hid (eqCvd_c cvl _ _ (fun q => q < w16.heap.size) w16 OC16.out OC2.out (fun b h => h))
    go_wp2_with fail
    refine HEQ.out.mono ?_
    rintro e w17 ⟨rfl, hb17⟩
    have HE := Lib.hid (HW.out w17 (B16.out.trans (hb17.mono B16.out.size))).2.2.1
    clear hb17 HEQ
    go_wp2
    go_ret
    exact ⟨rfl, HE.out⟩
end Go.Proofs.YtmefjkfjpgblcaaGreatDoor

