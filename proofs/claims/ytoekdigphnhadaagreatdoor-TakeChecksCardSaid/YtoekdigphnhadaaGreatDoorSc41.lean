/- Texts packed: LawTakeChecks. -/
import Derived.Test.YtoekdigphnhadaaGreatDoorRows
import Derived.Test.YtoekdigphnhadaaGreatDoorSc06
import Derived.Test.YtoekdigphnhadaaGreatDoorSc31
import Derived.Test.YtoekdigphnhadaaGreatDoorSc34
import Derived.Test.YtoekdigphnhadaaGreatDoorSc33
import Derived.Test.YtoekdigphnhadaaGreatDoorSc38
import Derived.Test.YtoekdigphnhadaaGreatDoorSc40
import Derived.Test.YtoekdigphnhadaaGreatDoorSc02
import Derived.Deep.DeepCutAuto
/- The law TakeChecks walked: for every list of numbers it returns true and leaves what was there. -/
namespace Go.Proofs.YtoekdigphnhadaaGreatDoor
set_option linter.unusedVariables false
open Go.RowKit Go.Sort

set_option maxRecDepth 100000 in
set_option maxHeartbeats 8000000 in
theorem TakeChecks_c (A : Option Addr) (l : List Int) (c : Nat) (w : World) (hr : Rs w 0 w.heap.size 1 intc A l) (hl : l.length ≤ 17592186044416) (ho : ∀ x ∈ l, okI x) (he : ErrsLaid w) (hp : PowLaid w) (hs : SpLaid w) (hm : MaxLaid w) :
    Calls Tryz.prog 3 #[.slice A l.length c] w fun e w' => e = .returned (.bool true) ∧ Below w.heap.size w w' := by
  have S0 := strNew w A l c hr hl ho
  have HL := LaidS.start he hp
  have L0 := HL.alloc (Nat.le_refl _) (.cells #[.slice A l.length c, .int .i64 0] 25)
  have hW0 : (w.alloc (.cells #[.slice A l.length c, .int .i64 0] 25)).heap.size = w.heap.size + 1 := by simp
  have HX := Lib.hid (fun (w1 : World) (h : (w.alloc (.cells #[.slice A l.length c, .int .i64 0] 25)).grownBy w1 (some w.heap.size)) => show Below w.heap.size w w1 ∧ SpLaid w1 ∧ MaxLaid w1 from ⟨gEnd h, sp_below hs (gEnd h) (Nat.le_refl _), max_below hm (gEnd h) (Nat.le_refl _)⟩)
  clear hr ho he hp hs hm HL
  go_enter Tryz.func3, Tryz.ntmps3
  go_upto_region 2 with (fail)
  generalize w.alloc (.cells #[.slice A l.length c, .int .i64 0] 25) = W0 at *
  have S0 := Lib.hid S0
  have L0 := Lib.hid L0
  generalize hsb : w.heap.size = sb at *
  have HSB := Lib.hid hsb
  have hlt0 : sb < W0.heap.size := by omega
  clear hsb hW0
  go_wp2_with fail
  refine (story_c sb 0 _ S0.out (by omega) L0.out).mono ?_
  rintro e w2 ⟨v2, k2, rfl, ⟨t, ls, sv, rfl, hsl, hin, htz, hll, hbd⟩, hk2, hs2, hg2⟩
  have hz2 := hg2.size
  have S2 := Lib.hid hs2
  have G2 := Lib.hid hg2
  have hF2 : ∀ q, SpG (fun _ => False) W0 w2 q → W0.heap.size ≤ q ∧ q < w2.heap.size := fun q hq => by
    rcases hq with h | h
    · exact h.elim
    · exact h
  have O2 := Lib.hid (hsl.more hF2)
  have I2 := Lib.hid (show ∀ y ∈ ls, Sli paraR w2 (fun q => W0.heap.size ≤ q ∧ q < w2.heap.size) y.1.paras y.2 from fun y hy => (hin y hy).more hF2)
  have HBD := Lib.hid hbd
  have hk20 := hs2.nonneg
  obtain ⟨AS, cS, hv, _, _⟩ := hsl.form
  subst hv
  clear hs2 hg2 hsl hin hbd hF2 S0 L0
  go_wp2_with fail
  refine (Rolls_c sb k2 _ S2.out (by omega)).mono ?_
  rintro e w1 ⟨v1, k1, rfl, hv1, hk1, hs1, hg1⟩
  obtain ⟨B, ra, rb, rc, rfl, hB, hBw, hR1, ha, hb, hc⟩ := hv1
  have hz1 := hg1.size
  have hk10 := hs1.nonneg
  have HA := Lib.hid (And.intro ha (And.intro hb hc))
  obtain ⟨n, hn⟩ : ∃ n, ls.length = n := ⟨_, rfl⟩
  have HN := Lib.hid hn
  have hll2 : n ≤ 91 := by omega
  rw [show xCs t (.slice AS ls.length cS) = #[.string t, .slice AS n cS] by rw [hn]; rfl]
  have hG3 := gAlloc (gTrans G2.out hg1) (.cells #[.string t, .slice AS n cS] 28)
  have hS3 := hs1.alloc (.cells #[.string t, .slice AS n cS] 28)
  have hR3 := hR1.alloc (.cells #[.string t, .slice AS n cS] 28)
  have hX3 := heap_alloc_new w1 (.cells #[.string t, .slice AS n cS] 28)
  have hz3 : (w1.alloc (.cells #[.string t, .slice AS n cS] 28)).heap.size = w1.heap.size + 1 := by simp
  have hO3 : Sli svR (w1.alloc (.cells #[.string t, .slice AS n cS] 28)) (fun q => W0.heap.size ≤ q ∧ q < w2.heap.size) ls (.slice AS n cS) := by
    rw [← hn]
    exact (O2.out.keep (fun q hq => hg1.block q hq.2 (by simp; omega))).keep (fun q hq => Below.heap_alloc w1 _ q (by omega))
  have hI3 : ∀ y ∈ ls, Sli paraR (w1.alloc (.cells #[.string t, .slice AS n cS] 28)) (fun q => W0.heap.size ≤ q ∧ q < w2.heap.size) y.1.paras y.2 := fun y hy => ((I2.out y hy).keep (fun q hq => hg1.block q hq.2 (by simp; omega))).keep (fun q hq => Below.heap_alloc w1 _ q (by omega))
  go_upto_region 3 with (fail)
  generalize hW3 : w1.alloc (.cells #[.string t, .slice AS n cS] 28) = w3 at *
  have hXw : w2.heap.size ≤ w1.heap.size := by omega
  generalize w1.heap.size = X at *
  have HF := Lib.hid (fun (W : World) (hg : w3.grownBy W (some sb)) => show ScL W (fun q => W0.heap.size ≤ q ∧ q < w2.heap.size) t ls (.slice AS n cS) ∧ (W.cell? ⟨X, 0, none⟩ = some (.string t) ∧ W.cell? ⟨X, 1, none⟩ = some (.slice AS n cS)) ∧ RollsBlk W B ra rb rc from by
    have hgs := hg.size
    refine ⟨⟨hO3.keep (fun q hq => hg.block q (by have := hq.2; omega) (by simp; omega)), fun y hy => (hI3 y hy).keep (fun q hq => hg.block q (by have := hq.2; omega) (by simp; omega)), fun q hq => by have := hq.2; omega, by omega, by omega, fun y hy => ?_⟩, ?_, hR3.grown hg (by omega)⟩
    · obtain ⟨b1, b2, b3, b4⟩ := HBD.out y hy
      exact ⟨by omega, by omega, by omega, fun p hp => Nat.le_trans (b4 p hp) (by decide)⟩
    · have hb : W.heap[X]? = some (.cells #[.string t, .slice AS n cS] 28 (0, 0)) := (hg.block X (by omega) (by simp; omega)).trans hX3
      obtain ⟨y, _⟩ := str_cells hb
      exact ⟨y 0, y 1⟩)
  have G3 := Lib.hid hG3
  have S3 := Lib.hid hS3
  clear hG3 hS3 hR3 hX3 hO3 hI3 hW3 hs1 hg1 hR1 ha hb hc S2 G2 O2 I2 hn
  obtain ⟨hsc, ⟨x0, x1⟩, hrb⟩ := HF.out w3 (gRefl _ _)
  have HTK := Lib.hid (TakesG_c (F := fun q => W0.heap.size ≤ q ∧ q < w2.heap.size) sb B k1 t ls (.slice AS n cS) ra rb rc w3 S3.out (by omega) hsc.sli (fun q hq => ⟨by have := hq.2; omega, by have := hq.1; omega⟩) (by rw [HN.out]; omega) (fun y hy => by
    obtain ⟨A, c, e, _⟩ := (hsc.par y hy).form
    exact ⟨A, c, e⟩) (fun y hy => ⟨(HBD.out y hy).1, (HBD.out y hy).2.2.1⟩) hrb HA.out.1 HA.out.2.1 HA.out.2.2 (by omega))
  rw [show xCs t (.slice AS n cS) = #[.string t, .slice AS n cS] from rfl] at HTK
  clear hsc hrb
  go_wp2_with fail
  refine HTK.out.mono ?_
  rintro e w4 ⟨tv, k4, rfl, ⟨tl, hto, hti, htb, htl⟩, hk4, hs4, hg4⟩
  have hz4 := hg4.size
  have hk40 := hs4.nonneg
  have T4 := Lib.hid (TkY.mk' (sb := sb) (B := 300000000) hto (by omega) hti (fun q hq => by
    rcases hq with hq | hq
    · exact hq.elim
    · exact ⟨hq.2.1, by have := hq.1; omega⟩) htb (by omega))
  have S4 := Lib.hid hs4
  have X4 := Lib.hid hg4
  clear hs4 hg4 hto hti htb S3 x0 x1 HTK
  obtain ⟨AT, cT, hv4, _, _⟩ := T4.out.tk.sli.form
  subst hv4
  obtain ⟨M4, hM4⟩ : ∃ q, tl.length = q := ⟨_, rfl⟩
  have HM4 := Lib.hid hM4
  rw [hM4] at T4 htl ⊢
  clear hM4
  go_upto_region 4 with (fail)
  go_cut [24] (fun s24 wx => ∃ (bb : Bool) (n : Int), s24 = .bool bb ∧ (bb = true → 0 < M4) ∧ n ≤ k4 + 1 ∧ Hid (Str wx sb n) ∧ Hid (w4.grownBy wx (some sb)))
  case first =>
    go_wp2_with fail
    refine (flip_c sb k4 3 _ S4.out (by omega) (by omega) (by omega)).mono ?_
    rintro e w5 ⟨v5, k5, rfl, ⟨b5, rfl⟩, hk5, hs5, hg5⟩
    have HH := Lib.hid (And.intro hs5 hg5)
    clear hs5 hg5
    cases b5 with
    | false =>
      go_wp2
      go_meet
      exact ⟨false, k5, rfl, (fun h => by cases h), by omega, HH.out.1, HH.out.2⟩
    | true =>
      by_cases h0 : M4 = 0
      · subst h0
        go_wp2
        go_meet
        exact ⟨false, k5, by first | rfl | simp, (fun h => by cases h), by omega, HH.out.1, HH.out.2⟩
      · have hp : (0 : Int) < (M4 : Int) := by omega
        go_wp2
        go_meet
        exact ⟨true, k5, by first | rfl | (simp; done) | (simp; omega), (fun _ => by omega), by omega, HH.out.1, HH.out.2⟩
  case rest =>
  clear S4
  obtain ⟨b5, k5, rfl, hb5, hk5, S5, G5⟩ := hcut
  have hz5 := G5.out.size
  have hk50 := S5.out.nonneg
  have T5 := Lib.hid (T4.out.turn G5.out)
  go_upto_if 24 with (fail)
  go_cut [6] (fun s6 wx => ∃ (tl : List (Tk × Value)) (A : Option Addr) (n c : Nat), s6 = .slice A n c ∧ tl.length = n ∧ Hid (TkY 300000010 sb wx tl s6) ∧ Hid (w4.grownBy wx (some sb)))
  case first =>
    cases b5 with
    | false =>
      go_wp2
      go_meet
      exact ⟨tl, AT, M4, cT, rfl, HM4.out, ⟨T5.out.tk, fun y hy => (T5.out.bd y hy).more (by omega), T5.out.len⟩, G5.out⟩
    | true =>
      have hlp : 0 < M4 := hb5 rfl
      have HSK := Lib.hid (SpoiledTakes_c (F := fun q => q < wc.heap.size ∧ q ≠ sb) 300000000 sb k5 tl (.slice AT M4 cT) wc S5.out (by omega) T5.out.tk.sli T5.out.tk.cov (fun q hq => hq) (by rw [HM4.out]; exact hlp) (by rw [HM4.out]; omega) T5.out.bd (by omega) (by omega))
      go_wp2_with fail
      refine HSK.out.mono ?_
      rintro e w6 ⟨v6, k6, rfl, ⟨l6, hown6, hin6, hb6, hl6, hp6⟩, hk6, hs6, hg6⟩
      have T6 := Lib.hid (TkY.mk' (sb := sb) (B := 300000010) hown6 (by omega) hin6 (fun q hq => by
        have := hg6.size
        rcases hq with hq | hq
        · exact ⟨by omega, hq.2⟩
        · exact ⟨hq.2.1, by have := hq.1; omega⟩) hb6 (by rw [HM4.out] at hl6; omega))
      have G6 := Lib.hid (gTrans G5.out hg6)
      clear hown6 hin6 hb6 hl6 hp6 hs6 hg6 HSK
      obtain ⟨A6, c6, hv6, _, _⟩ := T6.out.tk.sli.form
      subst hv6
      go_wp2
      go_meet
      exact ⟨l6, A6, l6.length, c6, rfl, rfl, T6.out, G6.out⟩
  case rest =>
  clear T4 T5 S5 G5 hb5
  obtain ⟨l6, A6, n6, c6, rfl, hn6, T6, Y6⟩ := hcut
  have HN6 := Lib.hid hn6
  clear hn6
  have G6 := Lib.hid (gTrans G3.out (gTrans X4.out Y6.out))
  have HW := Lib.hid (fun (W : World) (hb : Below wc.heap.size wc W) => show (ScL W (fun q => W0.heap.size ≤ q ∧ q < w2.heap.size) t ls (.slice AS n cS) ∧ (W.cell? ⟨X, 0, none⟩ = some (.string t) ∧ W.cell? ⟨X, 1, none⟩ = some (.slice AS n cS)) ∧ RollsBlk W B ra rb rc) ∧ TkW W (fun q => q < W.heap.size ∧ q ≠ sb) l6 (.slice A6 n6 c6) ∧ (Below w.heap.size w W ∧ SpLaid W ∧ MaxLaid W) from
    ⟨HF.out W (gBelow (gTrans X4.out Y6.out) hb), (T6.out.below hb).tk, by
      have h := HX.out W (gBelow G6.out hb)
      rw [HSB.out]; exact h⟩)
  obtain ⟨_, ⟨x0, x1⟩, _⟩ := (HW.out wc (Below.refl _ _)).1
  obtain ⟨ι, ff, hne, hff, hfS⟩ := family (fun W => W.cell? ⟨X, 0, none⟩ = some (.string t) ∧ W.cell? ⟨X, 1, none⟩ = some (.slice AS n cS)) wc ⟨x0, x1⟩
  have q0 := fun p => (hff p).1
  have q1 := fun p => (hff p).2
  have HFS := Lib.hid hfS
  have B0 := Lib.hid (show Below wc.heap.size wc wc.drew from (Below.refl _ _).drew)
  have HBB : B < wc.heap.size := by have := (gTrans X4.out Y6.out).size; omega
  have HNM := Lib.hid (show ∀ r ∈ [ra, rb, rc], r.name.size ≤ 140737488355328 from fun r hr => by
    have h : r.name.size ≤ 1000 := by
      simp at hr
      rcases hr with rfl | rfl | rfl
      · exact HA.out.1.1
      · exact HA.out.2.1.1
      · exact HA.out.2.2.1
    omega)
  clear hff hfS x0 x1 T6 HF HX G3 G6
  go_upto_region 6 with (fail)
  refine wp_region_segs3 [0, 3, 5, 12, 16] [17, 18, 19] [] [([], [], 0), ([1, 2, 4], [], 3), ([], [], 5), ([6, 7, 8, 10, 11, 14, 15], [9, 13], 12), ([], [], 16)] (by kernel_rfl) (by kernel_rfl) (fun _ _ _ dd _ h => by cases dd <;> exact h) (fun W => ∃ p : ι, W = ff p) (HFS.out _ (HW.out _ B0.out).1.2.1) ?_
  refine wpSegs3_step (by simp only [pick, List.getElem?_cons_succ, List.getElem?_cons_zero]; rfl) (by simp only [pick, List.getElem?_cons_succ, List.getElem?_cons_zero]; rfl) rfl (fun K0 hK0 L0 hL0 => ?_)
  repeat (first | go_big_quiet_step (fail) | quiet_step (fail))
  refine wpQuiet_nil (hL0 _ ?_)
  repeat (first | go_big_quiet_step (fail) | quiet_step (fail))
  refine wpQuiet_nil ?_
  refine Or.inl ⟨by kernel_rfl, ?_⟩
  go_simp
  refine (takes_c _).mono ?_
  rintro e w7 ⟨rfl, hb7⟩
  have B7 := Lib.hid (B0.out.trans (hb7.mono B0.out.size))
  clear hb7
  refine hK0 (fun W => ∃ p : ι, W = ff p) _ _ (fun _ h => h) (HFS.out _ (HW.out _ B7.out).1.2.1) ?_
  have HC1 := Lib.hid (CheckRolls_c (some ⟨B, 0, none⟩) [ra, rb, rc] 3 0 w7 ((HW.out _ B7.out).1.2.2.rs 0 w7.heap.size (by omega) (by have := B7.out.size; omega)) (by simp) HNM.out)
  rw [show [ra, rb, rc].length = 3 from rfl] at HC1
  refine wpSegs3_step (by simp only [pick, List.getElem?_cons_succ, List.getElem?_cons_zero]; rfl) (by simp only [pick, List.getElem?_cons_succ, List.getElem?_cons_zero]; rfl) rfl (fun K1 hK1 L1 hL1 => ?_)
  repeat (first | go_big_quiet_step (fail) | quiet_step (fail))
  refine wpQuiet_nil (hL1 _ ?_)
  repeat (first | go_big_quiet_step (fail) | quiet_step (fail))
  refine wpQuiet_nil ?_
  refine Or.inl ⟨by kernel_rfl, ?_⟩
  go_simp
  refine HC1.out.mono ?_
  rintro e w8 ⟨rfl, hb8⟩
  have B8 := Lib.hid (B7.out.trans (hb8.mono B7.out.size))
  clear hb8 HC1 B7
  refine hK1 (fun W => ∃ p : ι, W = ff p) _ _ (fun _ h => h) (HFS.out _ (HW.out _ B8.out).1.2.1) ?_
  have HC2 := Lib.hid (RollsFault_c (some ⟨B, 0, none⟩) [ra, rb, rc] 3 0 w8 ((HW.out _ B8.out).1.2.2.rs 0 w8.heap.size (by omega) (by have := B8.out.size; omega)) (by simp) (by omega) HNM.out)
  rw [show [ra, rb, rc].length = 3 from rfl] at HC2
  refine wpSegs3_step (by simp only [pick, List.getElem?_cons_succ, List.getElem?_cons_zero]; rfl) (by simp only [pick, List.getElem?_cons_succ, List.getElem?_cons_zero]; rfl) rfl (fun K2 hK2 L2 hL2 => ?_)
  repeat (first | go_big_quiet_step (fail) | quiet_step (fail))
  refine wpQuiet_nil (hL2 _ ?_)
  repeat (first | go_big_quiet_step (fail) | quiet_step (fail))
  refine wpQuiet_nil ?_
  refine Or.inl ⟨by kernel_rfl, ?_⟩
  go_simp
  refine HC2.out.mono ?_
  rintro e w9 ⟨rfl, hb9⟩
  have B9 := Lib.hid (B8.out.trans (hb9.mono B8.out.size))
  clear hb9 HC2 B8
  have e1 : (rollsFault [ra, rb, rc] == rollsFault [ra, rb, rc]) = true := beq_self_eq_true _
  refine hK2 (fun W => ∃ p : ι, W = ff p) _ _ (fun _ h => h) (HFS.out _ (HW.out _ B9.out).1.2.1) ?_
  have hC3 := CheckTakes_c t ls (.slice AS n cS) (some ⟨B, 0, none⟩) [ra, rb, rc] 3 0 l6 (.slice A6 n6 c6) w9 (HW.out _ B9.out).1.1 ((HW.out _ B9.out).1.2.2.rs 0 w9.heap.size (by omega) (by have := B9.out.size; omega)) (by simp) HNM.out (HW.out _ B9.out).2.1 (HW.out _ B9.out).2.2.2.2
  rw [show [ra, rb, rc].length = 3 from rfl] at hC3
  have HC3 := Lib.hid hC3
  clear hC3
  generalize rollsFault [ra, rb, rc] = rf at *
  refine wpSegs3_step (by simp only [pick, List.getElem?_cons_succ, List.getElem?_cons_zero]; rfl) (by simp only [pick, List.getElem?_cons_succ, List.getElem?_cons_zero]; rfl) rfl (fun K3 hK3 L3 hL3 => ?_)
  repeat (first | go_big_quiet_step (fail) | quiet_step (fail))
  refine wpQuiet_nil (hL3 _ ?_)
  repeat (first | go_big_quiet_step (fail) | quiet_step (fail))
  refine wpQuiet_nil ?_
  refine Or.inl ⟨by kernel_rfl, ?_⟩
  go_simp
  refine HC3.out.mono ?_
  rintro e w10 ⟨rfl, hb10⟩
  have B10 := Lib.hid (B9.out.trans (hb10.mono B9.out.size))
  clear hb10 HC3 B9
  refine hK3 (fun W => ∃ p : ι, W = ff p) _ _ (fun _ h => h) (HFS.out _ (HW.out _ B10.out).1.2.1) ?_
  have hC4 := TakesFault_c t ls (.slice AS n cS) (some ⟨B, 0, none⟩) [ra, rb, rc] 3 0 l6 (.slice A6 n6 c6) w10 (HW.out _ B10.out).1.1 ((HW.out _ B10.out).1.2.2.rs 0 w10.heap.size (by omega) (by have := B10.out.size; omega)) (by simp) (by simp) (by omega) HNM.out (HW.out _ B10.out).2.1 (HW.out _ B10.out).2.2.2.1 (HW.out _ B10.out).2.2.2.2
  rw [show [ra, rb, rc].length = 3 from rfl] at hC4
  have HC4 := Lib.hid hC4
  clear hC4
  refine wpSegs3_step (by simp only [pick, List.getElem?_cons_succ, List.getElem?_cons_zero]; rfl) (by simp only [pick, List.getElem?_cons_succ, List.getElem?_cons_zero]; rfl) rfl (fun K4 hK4 L4 hL4 => ?_)
  repeat (first | go_big_quiet_step (fail) | quiet_step (fail))
  refine wpQuiet_nil (hL4 _ ?_)
  repeat (first | go_big_quiet_step (fail) | quiet_step (fail))
  refine wpQuiet_nil ?_
  refine Or.inl ⟨by kernel_rfl, ?_⟩
  go_simp
  refine HC4.out.mono ?_
  rintro e w11 ⟨rfl, hb11⟩
  have B11 := Lib.hid (B10.out.trans (hb11.mono B10.out.size))
  clear hb11 HC4 B10
  refine hK4 (fun W => ∃ p : ι, W = ff p) _ _ (fun _ h => h) (HFS.out _ (HW.out _ B11.out).1.2.1) ?_
  have HEND := Lib.hid (HW.out _ B11.out).2.2.1
  have e2 : (tksChk ⟨t, ls.map (·.1)⟩ [ra, rb, rc] (l6.map (·.1)) == tksChk ⟨t, ls.map (·.1)⟩ [ra, rb, rc] (l6.map (·.1))) = true := beq_self_eq_true _
  generalize tksChk ⟨t, ls.map (·.1)⟩ [ra, rb, rc] (l6.map (·.1)) = E at *
  clear HW HFS B11
  refine wpSegs3_fin (by simp only [pick, List.getElem?_cons_succ, List.getElem?_cons_zero]; rfl) (by simp only [pick, List.getElem?_cons_succ, List.getElem?_cons_zero]; rfl) (fun L5 hL5 => ?_)
  repeat (first | go_big_quiet_step (fail) | quiet_step (fail))
  refine wpQuiet_nil (hL5 _ ?_)
  repeat (first | go_big_quiet_step (fail) | quiet_step (fail))
  refine wpQuiet_nil ?_
  go_wp2
  go_ret
  exact ⟨rfl, HEND.out⟩
end Go.Proofs.YtoekdigphnhadaaGreatDoor

