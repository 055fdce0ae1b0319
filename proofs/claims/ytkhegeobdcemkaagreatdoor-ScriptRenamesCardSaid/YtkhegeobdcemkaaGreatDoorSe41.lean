/- Texts packed: LawScriptRenames. -/
import Derived.Test.YtkhegeobdcemkaaGreatDoorRows
import Derived.Test.YtkhegeobdcemkaaGreatDoorSe29
import Derived.Test.YtkhegeobdcemkaaGreatDoorSe34
import Derived.Test.YtkhegeobdcemkaaGreatDoorSe40
import Derived.Test.YtkhegeobdcemkaaGreatDoorSe38
import Derived.Test.YtkhegeobdcemkaaGreatDoorSe02
import Derived.Test.YtkhegeobdcemkaaGreatDoorSe18
import Derived.Deep.DeepCutAuto
/- The law ScriptRenames walked: for every list of numbers it returns true and leaves what was there. -/
namespace Go.Proofs.YtkhegeobdcemkaaGreatDoor
set_option linter.unusedVariables false
open Go.RowKit Go.Sort

set_option maxRecDepth 100000 in
set_option maxHeartbeats 8000000 in
theorem ScriptRenames_c (A : Option Addr) (l : List Int) (c : Nat) (w : World) (hr : Rs w 0 w.heap.size 1 intc A l) (hl : l.length ≤ 17592186044416) (ho : ∀ x ∈ l, okI x) (hp : PowLaid w) (hs : SpLaid w) (hm : MaxLaid w) :
    Calls Tryz.prog 4 #[.slice A l.length c] w fun e w' => e = .returned (.bool true) ∧ Below w.heap.size w w' := by
  have S0 := strNew w A l c hr hl ho
  have HW0 := Lib.hid (show (w.alloc (.cells #[.slice A l.length c, .int .i64 0] 25)).heap.size = w.heap.size + 1 by simp)
  have HP := Lib.hid (show PowS w.heap.size (w.alloc (.cells #[.slice A l.length c, .int .i64 0] 25)) from (PowS.start hp).keep fun b hb => Below.heap_alloc w _ b hb)
  have HG := Lib.hid (fun (n : Int) (wx : World) P (h : PvS (w.alloc (.cells #[.slice A l.length c, .int .i64 0] 25)) w.heap.size P n wx) => show Below w.heap.size w wx ∧ SpLaid wx ∧ MaxLaid wx from
    have hb := gEnd h.gr
    ⟨hb, sp_below hs hb (Nat.le_refl _), max_below hm hb (Nat.le_refl _)⟩)
  have G0 := Lib.hid (GS.start (R := dumR) (e := 3) S0)
  clear hr ho hp hs hm S0
  go_enter Tryz.func4, Tryz.ntmps4
  go_upto_region 2 with (fail)
  generalize w.alloc (.cells #[.slice A l.length c, .int .i64 0] 25) = W0 at *
  have hW0s : w.heap.size < W0.heap.size := by have := HW0.out; omega
  go_wp2_with fail
  refine (AnyScript_c w.heap.size 0 W0 G0.out.str (by decide) HP.out).mono ?_
  rintro e w1 ⟨v1, n1, rfl, ⟨t1, l1, sv1, rfl, hsp⟩, hn1, hs1, hg1⟩
  obtain ⟨A1, c1, hv1, _, _⟩ := hsp.1.form
  subst hv1
  obtain ⟨l2, hx⟩ := Sct.any ⟨t1, l1, _, rfl, hsp⟩
  have hG1 := G0.out.turn hg1 hs1
  generalize hL1 : l1.length = Lx at *
  have hG2 := hG1.new (xCs t1 (.slice A1 Lx c1)) 28
  have hx2 := hx.alloc (E' := fun q => q = w1.heap.size) (.cells (xCs t1 (.slice A1 Lx c1)) 28) (fun q h e => by omega)
  have hL2 : l2.length = Lx := by
    obtain ⟨_, _, e, _⟩ := hx.sli.form
    injection e with _ e _
    exact e.symm
  have hXs : W0.heap.size ≤ w1.heap.size := hG1.size
  have hn10 := hs1.nonneg
  clear hsp hs1 hg1 G0 hG1 hx hL1
  rw [show xCs t1 (.slice A1 Lx c1) = #[.string t1, .slice A1 Lx c1] from rfl]
  go_upto_region 3 with (fail)
  generalize hW : w1.alloc (.cells #[.string t1, .slice A1 Lx c1] 28) = w2
  have G2 := Lib.hid (show PvS W0 w.heap.size [(w1.heap.size, xCs t1 (.slice A1 Lx c1), 28)] n1 w2 by rw [← hW]; exact hG2)
  have X2 := Lib.hid (show Sct W0 (fun q => q = w1.heap.size) 10010 91 t1 l2 (.slice A1 Lx c1) w2 by rw [← hW]; exact hx2)
  have HL2 := Lib.hid hL2
  have hLx : Lx ≤ 91 := by have h := X2.out.len; rw [hL2] at h; exact h
  clear hW hG2 hx2 hL2
  generalize w1.heap.size = X at *
  have HCL := Lib.hid (fun (n : Int) (W : World) P (hW : PvS W0 w.heap.size P n W) (hP : (X, xCs t1 (.slice A1 Lx c1), 28) ∈ P) => show W.cell? ⟨X, 0, none⟩ = some (.string t1) ∧ W.cell? ⟨X, 1, none⟩ = some (.slice A1 Lx c1) by
    obtain ⟨x, _⟩ := hW.cell hP
    exact ⟨x 0, x 1⟩)
  have hn10' : n1 ≤ 1000000000000000000 := by omega
  go_wp2_with fail
  refine (Speaker_c w.heap.size n1 _ G2.out.str (by omega)).mono ?_
  rintro e w3 ⟨v3, n3, rfl, ⟨fr, hfr, rfl⟩, hn3, hs3, hg3⟩
  have hfz : fr.size ≤ 100 := hfr
  have G3 := Lib.hid (G2.out.turn hg3 hs3)
  have X3 := Lib.hid (X2.out.turn hW0s hg3)
  have hn30 := hs3.nonneg
  clear hs3 hg3 hfr G2 X2
  go_wp2_with fail
  refine (Speaker_c w.heap.size n3 _ G3.out.str (by omega)).mono ?_
  rintro e w4 ⟨v4, n4, rfl, ⟨t4, ht4, rfl⟩, hn4, hs4, hg4⟩
  have htz : t4.size ≤ 100 := ht4
  have G4 := Lib.hid (G3.out.turn hg4 hs4)
  have X4 := Lib.hid (X3.out.turn hW0s hg4)
  have hn40 := hs4.nonneg
  clear hs4 hg4 ht4 G3 X3
  go_wp2_with fail
  refine (flip_c w.heap.size n4 3 _ G4.out.str (by omega) (by omega) (by omega)).mono ?_
  rintro e w5 ⟨v5, n5, rfl, ⟨b5, rfl⟩, hn5, hs5, hg5⟩
  have G5 := Lib.hid (G4.out.turn hg5 hs5)
  have X5 := Lib.hid (X4.out.turn hW0s hg5)
  have hn50 := hs5.nonneg
  clear hs5 hg5 G4 X4
  go_upto_if 23 with (fail)
  go_cut [6] (fun s6 wx => ∃ (tn : ByteArray) (n : Int), s6 = .string tn ∧ tn.size ≤ 100 ∧ Hid (PvS W0 w.heap.size [(X, xCs t1 (.slice A1 Lx c1), 28)] n wx) ∧ Hid (Sct W0 (fun q => q = X) 10010 91 t1 l2 (.slice A1 Lx c1) wx))
  case first =>
    cases b5 with
    | false =>
      go_wp2
      go_meet
      exact ⟨t4, n5, rfl, htz, G5, X5⟩
    | true =>
      go_wp2_with fail
      refine (NewName_c w.heap.size n5 _ G5.out.str (by omega)).mono ?_
      rintro e w6 ⟨v6, n6, rfl, ⟨t6, ht6, rfl⟩, hn6, hs6, hg6⟩
      have htz6 : t6.size ≤ 100 := ht6
      have G6 := Lib.hid (G5.out.turn hg6 hs6)
      have X6 := Lib.hid (X5.out.turn hW0s hg6)
      clear hs6 hg6 ht6
      go_wp2
      go_meet
      exact ⟨t6, n6, rfl, htz6, G6, X6⟩
  case rest =>
  clear G5 X5 htz
  obtain ⟨tn, n7, rfl, htz, G7, X7⟩ := hcut
  obtain ⟨x0, x1⟩ := HCL.out _ _ _ G7.out (by simp)
  have HRN := Lib.hid (Rename_c t1 l2 (.slice A1 Lx c1) fr tn wc (X7.out.scl (by decide) (by decide)) X7.out.fdb (HG.out _ _ _ G7.out).2.2 (by omega) (by omega))
  go_wp2_with fail
  refine HRN.out.mono ?_
  rintro e w8 ⟨ts, ln, vn, my, E, rfl, hb8, hsn, hE, hok, hno⟩
  have HE := Lib.hid hE
  have HOK := Lib.hid hok
  have HNO := Lib.hid hno
  have hG8 := G7.out.below hb8
  have X8 := Lib.hid (X7.out.below hb8)
  obtain ⟨An, cn, hvn, _, _⟩ := hsn.sli.form
  subst hvn
  have G9 := Lib.hid (hG8.new (xCs ts (.slice An ln.length cn)) 28)
  have HSN := Lib.hid hsn
  obtain ⟨Ln, hLn⟩ : ∃ Ln, ln.length = Ln := ⟨_, rfl⟩
  rw [hLn] at G9 HSN
  rw [show xCs ts (.slice An ln.length cn) = #[.string ts, .slice An Ln cn] by rw [hLn]; rfl]
  clear hb8 hE hok hno hG8 hsn HRN G7 X7 x0 x1 hLn
  go_upto_region 7 with (fail)
  generalize hW : w8.alloc (.cells #[.string ts, .slice An Ln cn] 28) = w9
  have hb9 : Below w8.heap.size w8 w9 := by rw [← hW]; exact (Below.refl _ _).alloc (Nat.le_refl _) _
  have G9' := Lib.hid (show PvS W0 w.heap.size [(w8.heap.size, xCs ts (.slice An Ln cn), 28), (X, xCs t1 (.slice A1 Lx c1), 28)] n7 w9 by rw [← hW]; exact G9.out)
  have X9 := Lib.hid (X8.out.below hb9)
  have HSN9 := Lib.hid (HSN.out.below hb9)
  clear hW hb9 G9 X8 HSN
  generalize w8.heap.size = Y at *
  have HCY := Lib.hid (fun (n : Int) (W : World) P (hW : PvS W0 w.heap.size P n W) (hP : (Y, xCs ts (.slice An Ln cn), 28) ∈ P) => show W.cell? ⟨Y, 0, none⟩ = some (.string ts) ∧ W.cell? ⟨Y, 1, none⟩ = some (.slice An Ln cn) by
    obtain ⟨x, _⟩ := hW.cell hP
    exact ⟨x 0, x 1⟩)
  have hY9 : Y < w9.heap.size := G9'.out.plt (p := (Y, xCs ts (.slice An Ln cn), 28)) (by simp)
  obtain ⟨x0, x1⟩ := HCL.out _ _ _ G9'.out (by simp)
  have HRO := Lib.hid (RenameOf_c t1 l2 (.slice A1 Lx c1) fr tn w9 (X9.out.scl (by decide) (by decide)) X9.out.fdb (HG.out _ _ _ G9'.out).2.2 (HG.out _ _ _ G9'.out).2.1 (by omega) (by omega))
  go_wp2_with fail
  refine HRO.out.mono ?_
  rintro e w10 ⟨tz, lz, vz, mz, E2, rfl, hb10, hsz, hE2, hok2, hno2⟩
  obtain rfl : E2 = E := hE2.symm.trans HE.out
  have HOK2 := Lib.hid hok2
  have HNO2 := Lib.hid hno2
  have hG10 := G9'.out.below hb10
  have HSN10 := Lib.hid (HSN9.out.below hb10)
  have hY10 : Y < w10.heap.size := Nat.lt_of_lt_of_le hY9 hb10.size
  obtain ⟨Az, cz, hvz, _, _⟩ := hsz.sli.form
  subst hvz
  have G11 := Lib.hid (hG10.new (xCs tz (.slice Az lz.length cz)) 28)
  have HSZ := Lib.hid hsz
  obtain ⟨Lz, hLz⟩ : ∃ Lz, lz.length = Lz := ⟨_, rfl⟩
  rw [hLz] at G11 HSZ
  rw [show xCs tz (.slice Az lz.length cz) = #[.string tz, .slice Az Lz cz] by rw [hLz]; rfl]
  clear hb10 hE2 hok2 hno2 hG10 hsz HRO G9' X9 HSN9 x0 x1 hLz
  go_upto_region 8 with (fail)
  generalize hW : w10.alloc (.cells #[.string tz, .slice Az Lz cz] 28) = w11
  have hb11 : Below w10.heap.size w10 w11 := by rw [← hW]; exact (Below.refl _ _).alloc (Nat.le_refl _) _
  have G11' := Lib.hid (show PvS W0 w.heap.size [(w10.heap.size, xCs tz (.slice Az Lz cz), 28), (Y, xCs ts (.slice An Ln cn), 28), (X, xCs t1 (.slice A1 Lx c1), 28)] n7 w11 by rw [← hW]; exact G11.out)
  have HSN11 := Lib.hid (HSN10.out.below hb11)
  have HSZ11 := Lib.hid (HSZ.out.below hb11)
  have hz11 : w10.heap.size < w11.heap.size := G11'.out.plt (p := (w10.heap.size, xCs tz (.slice Az Lz cz), 28)) (by simp)
  clear hW hb11 G11 HSN10 HSZ
  generalize w10.heap.size = Z at *
  have HCZ := Lib.hid (fun (n : Int) (W : World) P (hW : PvS W0 w.heap.size P n W) (hP : (Z, xCs tz (.slice Az Lz cz), 28) ∈ P) => show W.cell? ⟨Z, 0, none⟩ = some (.string tz) ∧ W.cell? ⟨Z, 1, none⟩ = some (.slice Az Lz cz) by
    obtain ⟨x, _⟩ := hW.cell hP
    exact ⟨x 0, x 1⟩)
  have HSC := Lib.hid (scripts_c w11 (HG.out _ _ _ G11'.out).2.2)
  have heq : ts = tz ∧ ln.map (·.1) = lz.map (·.1) ∧ my = mz := by
    by_cases h0 : E2 = 0
    · obtain ⟨a1, a2, a3⟩ := HOK.out h0
      obtain ⟨b1, b2, b3⟩ := HOK2.out h0
      exact ⟨a1.trans b1.symm, a2.trans b2.symm, a3.trans b3.symm⟩
    · obtain ⟨a1, a2, a3⟩ := HNO.out h0
      obtain ⟨b1, b2, b3⟩ := HNO2.out h0
      exact ⟨a1.trans b1.symm, by rw [a2, b2], a3.trans b3.symm⟩
  obtain ⟨rfl, hmm, rfl⟩ := heq
  have HMM := Lib.hid hmm
  have hEE : (E2 == E2) = true := beq_self_eq_true _
  have hme : (my == my) = true := beq_self_eq_true _
  clear HOK HOK2 HNO HNO2 hmm HE
  go_wp2_with fail
  refine HSC.out.mono ?_
  rintro e w12 ⟨rfl, hb12⟩
  have G12 := Lib.hid (G11'.out.below hb12)
  have hS1 : Sc2 w12 (fun q => q < w12.heap.size) ln (.slice An Ln cn) := by
    have h := HSN11.out.below hb12
    exact ⟨h.sli.more fun q hq => (by have := hb12.size; omega), fun y hy => (h.par y hy).more fun q hq => (by have := hb12.size; omega), fun q hq => hq⟩
  have hS2 : Sc2 w12 (fun q => q < w12.heap.size) lz (.slice Az Lz cz) := by
    have h := HSZ11.out.below hb12
    exact ⟨h.sli.more fun q hq => (by have := hb12.size; omega), fun y hy => (h.par y hy).more fun q hq => (by have := hb12.size; omega), fun q hq => hq⟩
  have HSS := SameScripts_c ts ts ln lz _ _ w12 hS1 hS2
  rw [decide_eq_true (by rw [HMM.out])] at HSS
  have HSS := Lib.hid HSS
  obtain ⟨y0, y1⟩ := HCY.out _ _ _ G12.out (by simp)
  obtain ⟨z0, z1⟩ := HCZ.out _ _ _ G12.out (by simp)
  have HEN := Lib.hid (HG.out _ _ _ G12.out).1
  clear hb12 HSC G11' HSN11 HSZ11 hS1 hS2 G12
  go_wp2_with fail
  refine HSS.out.mono ?_
  rintro e w13 ⟨rfl, hb13⟩
  have HE := Lib.hid (HEN.out.trans (hb13.mono HEN.out.size))
  clear hb13 HEN HSS
  go_wp2
  go_ret
  exact ⟨rfl, HE.out⟩
end Go.Proofs.YtkhegeobdcemkaaGreatDoor

