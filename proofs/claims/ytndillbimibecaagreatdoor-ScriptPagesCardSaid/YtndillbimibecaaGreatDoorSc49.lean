/- Texts packed: LawScriptPages. -/
import Derived.Test.YtndillbimibecaaGreatDoorRows
import Derived.Test.YtndillbimibecaaGreatDoorSc27
import Derived.Test.YtndillbimibecaaGreatDoorSc48
import Derived.Test.YtndillbimibecaaGreatDoorSc43
import Derived.Test.YtndillbimibecaaGreatDoorSc02
import Derived.Test.YtndillbimibecaaGreatDoorSc18
import Derived.Test.YtndillbimibecaaGreatDoorSc35
import Derived.Deep.DeepCutAuto
/- The law ScriptPages walked: for every list of numbers it returns true and leaves what was there. -/
namespace Go.Proofs.YtndillbimibecaaGreatDoor
set_option linter.unusedVariables false
open Go.RowKit Go.Sort

set_option maxRecDepth 100000 in
set_option maxHeartbeats 8000000 in
theorem ScriptPages_c (A : Option Addr) (l : List Int) (c : Nat) (w : World) (hr : Rs w 0 w.heap.size 1 intc A l) (hl : l.length ≤ 17592186044416) (ho : ∀ x ∈ l, okI x) (hp : PowLaid w) (hs : SpLaid w) (hm : MaxLaid w) :
    Calls Tryz.prog 3 #[.slice A l.length c] w fun e w' => e = .returned (.bool true) ∧ Below w.heap.size w w' := by
  have S0 := strNew w A l c hr hl ho
  have HW0 := Lib.hid (show (w.alloc (.cells #[.slice A l.length c, .int .i64 0] 25)).heap.size = w.heap.size + 1 by simp)
  have HP := Lib.hid (show PowS w.heap.size (w.alloc (.cells #[.slice A l.length c, .int .i64 0] 25)) from (PowS.start hp).keep fun b hb => Below.heap_alloc w _ b hb)
  have HG := Lib.hid (fun (n : Int) (wx : World) P (h : PvS (w.alloc (.cells #[.slice A l.length c, .int .i64 0] 25)) w.heap.size P n wx) => show Below w.heap.size w wx ∧ SpLaid wx ∧ MaxLaid wx from
    have hb := gEnd h.gr
    ⟨hb, sp_below hs hb (Nat.le_refl _), max_below hm hb (Nat.le_refl _)⟩)
  have G0 := Lib.hid (GS.start (R := dumR) (e := 3) S0)
  clear hr ho hp hs hm S0
  go_enter Tryz.func3, Tryz.ntmps3
  go_upto_region 2 with (fail)
  generalize w.alloc (.cells #[.slice A l.length c, .int .i64 0] 25) = W0 at *
  go_wp2_with fail
  refine (AnyScript_c w.heap.size 0 W0 G0.out.str (by decide) HP.out).mono ?_
  rintro e w1 ⟨v1, n1, rfl, ⟨t1, l1, sv1, rfl, hsp⟩, hn1, hs1, hg1⟩
  obtain ⟨A1, c1, hv1, _, _⟩ := hsp.1.form
  subst hv1
  obtain ⟨l2, hx⟩ := Sct.any ⟨t1, l1, _, rfl, hsp⟩
  have hG1 := G0.out.turn hg1 hs1
  generalize hL1 : l1.length = Lx at *
  have hG2 := hG1.new (xCs t1 (.slice A1 Lx c1)) 28
  have hx2 := hx.alloc (E' := fun q => q = w1.heap.size) (.cells (xCs t1 (.slice A1 Lx c1)) 28) (fun q h e => by omega)
  have hL2 : l2.length = Lx := by
    obtain ⟨_, _, e, _⟩ := hx.sli.form
    injection e with _ e _
    exact e.symm
  have hXs : W0.heap.size ≤ w1.heap.size := hG1.size
  clear hsp hs1 hg1 G0 hG1 hx hL1
  rw [show xCs t1 (.slice A1 Lx c1) = #[.string t1, .slice A1 Lx c1] from rfl]
  go_upto_region 3 with (fail)
  generalize hW : w1.alloc (.cells #[.string t1, .slice A1 Lx c1] 28) = w2
  have G2 := Lib.hid (show PvS W0 w.heap.size [(w1.heap.size, xCs t1 (.slice A1 Lx c1), 28)] n1 w2 by rw [← hW]; exact hG2)
  have X2 := Lib.hid (show Sct W0 (fun q => q = w1.heap.size) 10010 91 t1 l2 (.slice A1 Lx c1) w2 by rw [← hW]; exact hx2)
  have HL2 := Lib.hid hL2
  have hLx : Lx ≤ 91 := by have h := X2.out.len; rw [hL2] at h; exact h
  clear hW hG2 hx2 hL2
  generalize w1.heap.size = X at *
  have HCL := Lib.hid (fun (n : Int) (W : World) P (hW : PvS W0 w.heap.size ((X, xCs t1 (.slice A1 Lx c1), 28) :: P) n W) => show W.cell? ⟨X, 0, none⟩ = some (.string t1) ∧ W.cell? ⟨X, 1, none⟩ = some (.slice A1 Lx c1) from
    have ⟨x, _⟩ := hW.cell (p := (X, xCs t1 (.slice A1 Lx c1), 28)) (by simp)
    ⟨x 0, x 1⟩)
  obtain ⟨ck, hck⟩ : ∃ ck, chkE ⟨t1, l2.map (·.1)⟩ = ck := ⟨_, rfl⟩
  have HCK := Lib.hid hck
  clear hck
  have hsb : w.heap.size < W0.heap.size := by have := HW0.out; omega
  have hpn : ∀ y ∈ l2, y.1.paras.length ≤ 61 := fun y hy => Nat.le_trans (X2.out.bd y hy).2.2.1 (by decide)
  have HPN := Lib.hid (And.intro (show l2.length ≤ 91 by rw [HL2.out]; exact hLx) hpn)
  obtain ⟨xs, hxs⟩ : ∃ xs, l2.map (·.1) = xs := ⟨_, rfl⟩
  have HXS := Lib.hid hxs
  clear hpn hxs
  obtain ⟨x0, x1⟩ := HCL.out _ _ _ G2.out
  have HLT := Lib.hid ((Layout_c t1 l2 (.slice A1 Lx c1) w2 (X2.out.scl (by decide) (by decide)) (HG.out _ _ _ G2.out).2.2 HPN.out.1 HPN.out.2).mono (R' := fun e w' => ∃ v, e = .returned (.tuple #[v, .int .i64 ck]) ∧ Below w2.heap.size w2 w' ∧ ((¬ ck = 0 ∧ v = .slice none 0 0) ∨ (ck = 0 ∧ PgO w2 w' (pagesB ((xs.map blocksS).flatten)) v))) fun e w' h => by unfold LtP at h; dsimp only at h; rw [HCK.out, HXS.out] at h; exact h)
  go_wp2_with fail
  refine HLT.out.mono ?_
  rintro e w3 ⟨vp, rfl, hb3, hpg⟩
  have G3 := Lib.hid (G2.out.below hb3)
  have X3 := Lib.hid (X2.out.below hb3)
  obtain ⟨Ap, np, cp, rfl⟩ : ∃ A n c, vp = .slice A n c := by
    rcases hpg with ⟨_, h⟩ | ⟨_, l, _, h, _⟩
    · exact ⟨_, _, _, h⟩
    · obtain ⟨A, c, e, _⟩ := h.form
      exact ⟨A, _, c, e⟩
  have HPG := Lib.hid hpg
  clear hb3 HLT G2 X2 x0 x1 hpg
  obtain ⟨x0, x1⟩ := HCL.out _ _ _ G3.out
  have HST := Lib.hid ((Starts_c t1 l2 (.slice A1 Lx c1) w3 (X3.out.scl (by decide) (by decide)) (HG.out _ _ _ G3.out).2.2 HPN.out.1 HPN.out.2).mono (R' := fun e w' => ∃ v, e = .returned (.tuple #[v, .int .i64 ck]) ∧ Below w3.heap.size w3 w' ∧ ((¬ ck = 0 ∧ v = .slice none 0 0) ∨ (ck = 0 ∧ Own intR w' w3.heap.size w3.heap.size 3 ((stR (xs.map blocksS) ([], [])).map fun k : Nat => (k : Int)) v))) fun e w' h => by unfold StP at h; dsimp only at h; rw [HCK.out, HXS.out] at h; exact h)
  go_wp2_with fail
  refine HST.out.mono ?_
  rintro e w4 ⟨vs, rfl, hb4, hst⟩
  have G4 := Lib.hid (G3.out.below hb4)
  have X4 := Lib.hid (X3.out.below hb4)
  obtain ⟨As, ns, cs, rfl⟩ : ∃ A n c, vs = .slice A n c := by
    rcases hst with ⟨_, h⟩ | ⟨_, h⟩
    · exact ⟨_, _, _, h⟩
    · exact own_form h
  have HP4 := Lib.hid (show ck = 0 → ∃ l : List PgT, l.map (·.1) = numP (pagesB ((xs.map blocksS).flatten)) ∧ PgW w4 (fun q => q < w4.heap.size) l (.slice Ap np cp) from fun h0 => by
    rcases HPG.out with ⟨h, _⟩ | ⟨_, l, h1, h2, h3⟩
    · exact absurd h0 h
    · have hz := hb4.size
      exact ⟨l, h1, ((h2.below hb4 (fun q hq => hq.2)).more fun q hq => by have := hq.2; omega), fun y hy => (((h3 y hy).below hb4 (fun q hq => hq.2)).more fun q hq => by have := hq.2; omega), fun q hq => hq⟩)
  have HS4 := Lib.hid (show ck = 0 → Sli intR w4 (fun q => q < w4.heap.size) ((stR (xs.map blocksS) ([], [])).map fun k : Nat => (k : Int)) (.slice As ns cs) from fun h0 => by
    rcases hst with ⟨h, _⟩ | ⟨_, h⟩
    · exact absurd h0 h
    · exact h.sliF (enc := fun x : Int => [.int .i64 x]) (hn := fun _ => rfl) (fun g e => (h.block g e).2))
  clear hb4 HST G3 X3 x0 x1 hst HPG
  obtain ⟨x0, x1⟩ := HCL.out _ _ _ G4.out
  have HSF := Lib.hid ((ScriptFault_c t1 l2 (.slice A1 Lx c1) w4 (X4.out.scl (by decide) (by decide)) (HG.out _ _ _ G4.out).2.1 (HG.out _ _ _ G4.out).2.2).mono (R' := fun e w' => e = .returned (.int .i64 ck) ∧ Below w4.heap.size w4 w') fun e w' h => by unfold ChP at h; rw [HCK.out] at h; exact h)
  go_wp2_with fail
  refine HSF.out.mono ?_
  rintro e w5 ⟨rfl, hb5⟩
  have G5 := Lib.hid (G4.out.below hb5)
  have X5 := Lib.hid (X4.out.below hb5)
  have hz5 := hb5.size
  have HP5 := Lib.hid (fun h0 => show ∃ l : List PgT, l.map (·.1) = numP (pagesB ((xs.map blocksS).flatten)) ∧ PgW w5 (fun q => q < w5.heap.size) l (.slice Ap np cp) by
    obtain ⟨l, h1, h2⟩ := HP4.out h0
    have h3 := h2.below hb5
    exact ⟨l, h1, h3.sli.more fun q hq => by omega, fun y hy => (h3.ln y hy).more fun q hq => by omega, fun q hq => hq⟩)
  have HS5 := Lib.hid (fun h0 => ((HS4.out h0).below hb5 (fun q hq => hq)).more (G := fun q => q < w5.heap.size) fun q hq => by omega)
  clear hb5 HSF G4 X4 x0 x1 HP4 HS4
  by_cases hc0 : ck = 0
  case neg =>
    have hne : (ck != 0) = true := bne_iff_ne.2 hc0
    have hee : (ck == ck) = true := beq_self_eq_true _
    have HSC := Lib.hid (scripts_c w5 (HG.out _ _ _ G5.out).2.2)
    have HEN := Lib.hid (HG.out _ _ _ G5.out).1
    clear hc0
    go_wp2_with fail
    refine HSC.out.mono ?_
    rintro e w7 ⟨rfl, hb7⟩
    have HE := Lib.hid (HEN.out.trans (hb7.mono HEN.out.size))
    clear hb7 HEN HSC
    go_wp2
    go_ret
    exact ⟨rfl, HE.out⟩
  subst hc0
  obtain ⟨lp, hlp, hpw⟩ := HP5.out rfl
  have HLP := Lib.hid hlp
  have HPW := Lib.hid hpw
  have HSW := Lib.hid (HS5.out rfl)
  have HOX := Lib.hid (fun (y : Scene × Value) (hy : y ∈ l2) => LnOk.of (chkE_ok HCK.out) (y := y.1) (List.mem_map_of_mem hy))
  obtain ⟨x0, x1⟩ := HCL.out _ _ _ G5.out
  have HLO := Lib.hid ((LayoutOf_c t1 l2 (.slice A1 Lx c1) w5 (X5.out.scl (by decide) (by decide)) HOX.out HPN.out.1 HPN.out.2 (HG.out _ _ _ G5.out).2.1).mono (R' := fun e w' => LofP xs w5 e w') fun e w' h => by rw [HXS.out] at h; exact h)
  clear hlp hpw HP5 HS5
  go_wp2_with fail
  refine HLO.out.mono ?_
  rintro e w6 ⟨vq, vm, rfl, hb6, ⟨lq, hlq, hq1, hq2⟩, hm⟩
  have G6 := Lib.hid (G5.out.below hb6)
  have hz6 := hb6.size
  have hp6 := HPW.out.below hb6
  obtain ⟨Aq, cq, rfl, _, _⟩ := hq1.form
  obtain ⟨Am, cm, rfl, _, _⟩ := hm.form
  have HEP := Lib.hid (fun (W : World) (hb : Below w6.heap.size w6 W) => SamePages_c (F := fun q => q < w6.heap.size) lp lq (.slice Ap np cp) (.slice Aq lq.length cq) W (PgW.below ⟨hp6.sli.more fun q hq => by omega, fun y hy => (hp6.ln y hy).more fun q hq => by omega, fun q hq => hq⟩ hb) (PgW.below ⟨hq1.more fun q hq => hq.2, fun y hy => (hq2 y hy).more fun q hq => hq.2, fun q hq => hq⟩ hb) (HLP.out.trans hlq.symm))
  have HEI := Lib.hid (fun (W : World) (hb : Below w6.heap.size w6 W) => show Calls Tryz.prog 11 #[.slice As ns cs, .slice Am ((stR (xs.map blocksS) ([], [])).map fun k : Nat => (k : Int)).length cm] W (fun e w' => e = .returned (.bool true) ∧ Below W.heap.size W w') by
    have h := eqInt_c _ _ (.slice As ns cs) (.slice Am ((stR (xs.map blocksS) ([], [])).map fun k : Nat => (k : Int)).length cm) (fun q => q < w6.heap.size) W (Sli.below (((HSW.out.below hb6 (fun q hq => hq))).more (G := fun q => q < w6.heap.size) fun q hq => by omega) hb (fun q hq => hq)) (Sli.below (hm.more (G := fun q => q < w6.heap.size) fun q hq => hq.2) hb (fun q hq => hq)) (fun q hq => Nat.lt_of_lt_of_le hq hb.size)
    rw [decide_eq_true rfl] at h
    exact h)
  have HSC := Lib.hid (scripts_c w6 (HG.out _ _ _ G6.out).2.2)
  have HEN := Lib.hid (HG.out _ _ _ G6.out).1
  generalize ((stR (xs.map blocksS) ([], [])).map fun k : Nat => (k : Int)).length = nm at *
  generalize lq.length = nq at *
  clear hb6 hp6 hlq hq1 hq2 hm HLO G5 X5 HPW HSW x0 x1
  go_wp2_with fail
  refine HSC.out.mono ?_
  rintro e w7 ⟨rfl, hb7⟩
  have HB7 := Lib.hid hb7
  have HE7 := Lib.hid (HEN.out.trans (hb7.mono HEN.out.size))
  clear hb7 HEN HSC
  go_wp2_with fail
  refine (HEP.out w7 HB7.out).mono ?_
  rintro e w8 ⟨rfl, hb8⟩
  have HB8 := Lib.hid (HB7.out.trans (hb8.mono HB7.out.size))
  have HE8 := Lib.hid (HE7.out.trans (hb8.mono HE7.out.size))
  clear hb8
  go_wp2_with fail
  refine (HEI.out w8 HB8.out).mono ?_
  rintro e w9 ⟨rfl, hb9⟩
  have HE9 := Lib.hid (HE8.out.trans (hb9.mono HE8.out.size))
  clear hb9
  go_wp2
  go_ret
  exact ⟨rfl, HE9.out⟩
end Go.Proofs.YtndillbimibecaaGreatDoor

