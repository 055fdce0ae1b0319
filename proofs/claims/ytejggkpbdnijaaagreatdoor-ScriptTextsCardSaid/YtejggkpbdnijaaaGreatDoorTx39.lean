/- Texts packed: LawScriptTexts. -/
import Derived.Test.YtejggkpbdnijaaaGreatDoorRows
import Derived.Test.YtejggkpbdnijaaaGreatDoorTx34
import Derived.Test.YtejggkpbdnijaaaGreatDoorTx38
import Derived.Test.YtejggkpbdnijaaaGreatDoorTx02
import Derived.Deep.DeepCutAuto
/- The law ScriptTexts walked: for every list of numbers it returns true and leaves what was there. -/
namespace Go.Proofs.YtejggkpbdnijaaaGreatDoor
set_option linter.unusedVariables false
open Go.RowKit Go.Sort

theorem txV_zero {x : Script} {tx : ByteArray} (h : txV x = (tx, 0)) : readS tx = (x, 0, 0) := by
  unfold txV at h
  by_cases hc : chkE x = 0
  · rw [if_neg (fun h => h hc)] at h
    by_cases hs : 200000 < (textS x).size
    · rw [if_pos hs] at h
      injection h with _ h
      cases h
    · rw [if_neg hs] at h
      injection h with h _
      rw [← h]
      exact read_back hc hs
  · rw [if_pos hc] at h
    injection h with _ h
    exact absurd h hc
theorem txV_size {x : Script} {tx : ByteArray} (h : txV x = (tx, 0)) : tx.size ≤ 200000 := by
  unfold txV at h
  by_cases hc : chkE x = 0
  · rw [if_neg (fun h => h hc)] at h
    by_cases hs : 200000 < (textS x).size
    · rw [if_pos hs] at h
      injection h with _ h
      cases h
    · rw [if_neg hs] at h
      injection h with h _
      rw [← h]
      omega
  · rw [if_pos hc] at h
    injection h with _ h
    exact absurd h hc
set_option maxRecDepth 100000 in
set_option maxHeartbeats 8000000 in
theorem ScriptTexts_c (A : Option Addr) (l : List Int) (c : Nat) (w : World) (hr : Rs w 0 w.heap.size 1 intc A l) (hl : l.length ≤ 17592186044416) (ho : ∀ x ∈ l, okI x) (hp : PowLaid w) (hs : SpLaid w) (hm : MaxLaid w) :
    Calls Tryz.prog 5 #[.slice A l.length c] w fun e w' => e = .returned (.bool true) ∧ Below w.heap.size w w' := by
  have S0 := strNew w A l c hr hl ho
  have HW0 := Lib.hid (show (w.alloc (.cells #[.slice A l.length c, .int .i64 0] 25)).heap.size = w.heap.size + 1 by simp)
  have HP := Lib.hid (show PowS w.heap.size (w.alloc (.cells #[.slice A l.length c, .int .i64 0] 25)) from (PowS.start hp).keep fun b hb => Below.heap_alloc w _ b hb)
  have HG := Lib.hid (fun (n : Int) (wx : World) P (h : PvS (w.alloc (.cells #[.slice A l.length c, .int .i64 0] 25)) w.heap.size P n wx) => show Below w.heap.size w wx ∧ SpLaid wx ∧ MaxLaid wx from
    have hb := gEnd h.gr
    ⟨hb, sp_below hs hb (Nat.le_refl _), max_below hm hb (Nat.le_refl _)⟩)
  have G0 := Lib.hid (GS.start (R := dumR) (e := 3) S0)
  clear hr ho hp hs hm S0
  go_enter Tryz.func5, Tryz.ntmps5
  go_upto_region 2 with (fail)
  generalize w.alloc (.cells #[.slice A l.length c, .int .i64 0] 25) = W0 at *
  go_wp2_with fail
  refine (AnyScript_c w.heap.size 0 W0 G0.out.str (by decide) HP.out).mono ?_
  rintro e w1 ⟨v1, n1, rfl, ⟨t1, l1, sv1, rfl, hsp⟩, hn1, hs1, hg1⟩
  obtain ⟨A1, c1, hv1, _, _⟩ := hsp.1.form
  subst hv1
  obtain ⟨l2, hx⟩ := Sct.any ⟨t1, l1, _, rfl, hsp⟩
  have hG1 := G0.out.turn hg1 hs1
  generalize hL1 : l1.length = Lx at *
  have hG2 := hG1.new (xCs t1 (.slice A1 Lx c1)) 40
  have hx2 := hx.alloc (E' := fun q => q = w1.heap.size) (.cells (xCs t1 (.slice A1 Lx c1)) 40) (fun q h e => by omega)
  have hL2 : l2.length = Lx := by
    obtain ⟨_, _, e, _⟩ := hx.sli.form
    injection e with _ e _
    exact e.symm
  have hXs : W0.heap.size ≤ w1.heap.size := hG1.size
  clear hsp hs1 hg1 G0 hG1 hx hL1
  rw [show xCs t1 (.slice A1 Lx c1) = #[.string t1, .slice A1 Lx c1] from rfl]
  go_upto_region 3 with (fail)
  generalize hW : w1.alloc (.cells #[.string t1, .slice A1 Lx c1] 40) = w2
  have G2 := Lib.hid (show PvS W0 w.heap.size [(w1.heap.size, xCs t1 (.slice A1 Lx c1), 40)] n1 w2 by rw [← hW]; exact hG2)
  have X2 := Lib.hid (show Sct W0 (fun q => q = w1.heap.size) 10010 91 t1 l2 (.slice A1 Lx c1) w2 by rw [← hW]; exact hx2)
  have HL2 := Lib.hid hL2
  clear hW hG2 hx2 hL2
  generalize w1.heap.size = X at *
  obtain ⟨tx, te, htv⟩ : ∃ tx te, txV ⟨t1, l2.map (·.1)⟩ = (tx, te) := ⟨_, _, rfl⟩
  have HTV := Lib.hid htv
  clear htv
  have HCL := Lib.hid (fun (n : Int) (W : World) P (hW : PvS W0 w.heap.size ((X, xCs t1 (.slice A1 Lx c1), 40) :: P) n W) => show W.cell? ⟨X, 0, none⟩ = some (.string t1) ∧ W.cell? ⟨X, 1, none⟩ = some (.slice A1 Lx c1) from
    have ⟨x, _⟩ := hW.cell (p := (X, xCs t1 (.slice A1 Lx c1), 40)) (by simp)
    ⟨x 0, x 1⟩)
  obtain ⟨x0, x1⟩ := HCL.out _ _ _ G2.out
  have HT := Lib.hid ((Text_c t1 l2 (.slice A1 Lx c1) w2 (X2.out.scl (by decide) (by decide)) (HG.out _ _ _ G2.out).2.2).mono (R' := fun e w' => e = .returned (.tuple #[.string tx, .int .i64 te]) ∧ Below w2.heap.size w2 w') fun e w' h => by unfold TxP at h; rw [HTV.out] at h; exact h)
  go_wp2_with fail
  refine HT.out.mono ?_
  rintro e w3 ⟨rfl, hb3⟩
  have G3 := Lib.hid (G2.out.below hb3)
  have X3 := Lib.hid (X2.out.below hb3)
  clear hb3 HT G2 X2 x0 x1
  obtain ⟨x0, x1⟩ := HCL.out _ _ _ G3.out
  have HT := Lib.hid ((TextOf_c t1 l2 (.slice A1 Lx c1) w3 (X3.out.scl (by decide) (by decide)) (HG.out _ _ _ G3.out).2.1 (HG.out _ _ _ G3.out).2.2).mono (R' := fun e w' => e = .returned (.tuple #[.string tx, .int .i64 te]) ∧ Below w3.heap.size w3 w') fun e w' h => by unfold TxP at h; rw [HTV.out] at h; exact h)
  go_wp2_with fail
  refine HT.out.mono ?_
  rintro e w4 ⟨rfl, hb4⟩
  have G4 := Lib.hid (G3.out.below hb4)
  have X4 := Lib.hid (X3.out.below hb4)
  clear hb4 HT G3 X3 x0 x1
  have hqe : (te != te) = false := by simp
  have hqt : (tx.toList == tx.toList) = true := by simp
  have hqn : (tx.toList != tx.toList) = false := by simp
  by_cases hte : te = 0
  case neg =>
    have hne : (te != 0) = true := bne_iff_ne.2 hte
    have HSC := Lib.hid (scripts_c w4 (HG.out _ _ _ G4.out).2.2)
    have HEN := Lib.hid (HG.out _ _ _ G4.out).1
    clear hte
    go_wp2_with fail
    refine HSC.out.mono ?_
    rintro e w5 ⟨rfl, hb5⟩
    have HE := Lib.hid (HEN.out.trans (hb5.mono HEN.out.size))
    clear hb5 HEN HSC
    go_wp2
    go_ret
    exact ⟨rfl, HE.out⟩
  subst hte
  have HRB := Lib.hid (txV_zero HTV.out)
  have hts := txV_size HTV.out
  have HRD := Lib.hid ((Read_c tx w4 (by omega) (HG.out _ _ _ G4.out).2.2).mono (R' := fun e w' => ∃ (lr : List (Scene × Value)) (vr : Value), e = .returned (.tuple #[.agg #[.string t1, vr], .int .i64 0, .int .i64 0]) ∧ lr.map (·.1) = l2.map (·.1) ∧ Sli svR w' (fun q => w4.heap.size ≤ q ∧ q < w'.heap.size) lr vr ∧ (∀ y ∈ lr, Sli paraR w' (fun q => w4.heap.size ≤ q ∧ q < w'.heap.size) y.1.paras y.2) ∧ Below w4.heap.size w4 w') fun e w' h => by
    unfold ReP at h
    rw [HRB.out] at h
    exact h)
  clear hqe
  go_wp2_with fail
  refine HRD.out.mono ?_
  rintro e w5 ⟨lr, vr, rfl, hlr, hsr, hpr, hb5⟩
  obtain ⟨Ar, cr, hvr, _, _⟩ := hsr.form
  subst hvr
  have hz5 := hb5.size
  have hX5 := X4.out.below hb5
  have hG5 := (G4.out.below hb5).new (xCs t1 (.slice Ar lr.length cr)) 40
  have HSR := Lib.hid (show Sc2 w5 (fun q => q < w5.heap.size) lr (.slice Ar lr.length cr) from ⟨hsr.more fun q hq => hq.2, fun y hy => (hpr y hy).more fun q hq => hq.2, fun q hq => hq⟩)
  have HSX := Lib.hid (show Sc2 w5 (fun q => q < w5.heap.size) l2 (.slice A1 Lx c1) from ⟨hX5.sli.more fun q hq => hq.2.1, fun y hy => (hX5.par y hy).more fun q hq => hq.2.1, fun q hq => hq⟩)
  have HLR := Lib.hid hlr
  obtain ⟨Lr, hLr⟩ : ∃ Lr, lr.length = Lr := ⟨_, rfl⟩
  rw [hLr] at hG5 HSR
  have hXw : X < w5.heap.size := (G4.out.below hb5).plt (p := (X, xCs t1 (.slice A1 Lx c1), 40)) (by simp)
  rw [hLr]
  clear hsr hpr hlr hb5 hX5 HRD G4 X4 hLr
  go_upto_region 10 with (fail)
  generalize hW : w5.alloc (.cells #[.string t1, .slice Ar Lr cr] 40) = w6
  have hG6 : PvS W0 w.heap.size [(w5.heap.size, xCs t1 (.slice Ar Lr cr), 40), (X, xCs t1 (.slice A1 Lx c1), 40)] n1 w6 := by rw [← hW]; exact hG5
  have hb6 : Below w5.heap.size w5 w6 := by rw [← hW]; exact (Below.refl _ _).alloc (Nat.le_refl _) _
  have G6 := Lib.hid hG6
  have HSR6 := Lib.hid (HSR.out.below hb6)
  have HSX6 := Lib.hid (HSX.out.below hb6)
  clear hW hG5 hG6 hb6 HSR HSX
  have HSC := Lib.hid (scripts_c w6 (HG.out _ _ _ G6.out).2.2)
  go_wp2_with fail
  refine HSC.out.mono ?_
  rintro e w7 ⟨rfl, hb7⟩
  have G7 := Lib.hid (G6.out.below hb7)
  have HSR7 := Lib.hid (HSR6.out.below hb7)
  have HSX7 := Lib.hid (HSX6.out.below hb7)
  clear hb7 G6 HSR6 HSX6 HSC
  generalize w5.heap.size = Y at *
  obtain ⟨a, _⟩ := G7.out.cell (p := (X, xCs t1 (.slice A1 Lx c1), 40)) (by simp)
  obtain ⟨b, _⟩ := G7.out.cell (p := (Y, xCs t1 (.slice Ar Lr cr), 40)) (by simp)
  have x0 : w7.cell? ⟨X, 0, none⟩ = some (.string t1) := a 0
  have x1 : w7.cell? ⟨X, 1, none⟩ = some (.slice A1 Lx c1) := a 1
  have y0 : w7.cell? ⟨Y, 0, none⟩ = some (.string t1) := b 0
  have y1 : w7.cell? ⟨Y, 1, none⟩ = some (.slice Ar Lr cr) := b 1
  have HSS := SameScripts_c t1 t1 l2 lr _ _ w7 HSX7.out HSR7.out
  rw [HLR.out, decide_eq_true rfl] at HSS
  have HSS := Lib.hid HSS
  have HEN := Lib.hid (HG.out _ _ _ G7.out).1
  clear a b
  go_wp2_with fail
  refine HSS.out.mono ?_
  rintro e w8 ⟨rfl, hb8⟩
  have HE := Lib.hid (HEN.out.trans (hb8.mono HEN.out.size))
  clear hb8 HEN HSS
  go_wp2
  go_ret
  exact ⟨rfl, HE.out⟩
end Go.Proofs.YtejggkpbdnijaaaGreatDoor

