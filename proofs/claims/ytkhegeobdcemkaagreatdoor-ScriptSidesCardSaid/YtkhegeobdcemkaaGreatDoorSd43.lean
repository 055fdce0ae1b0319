/- Texts packed: LawScriptSides. -/
import Derived.Test.YtkhegeobdcemkaaGreatDoorRows
import Derived.Test.YtkhegeobdcemkaaGreatDoorSd31
import Derived.Test.YtkhegeobdcemkaaGreatDoorSd37
import Derived.Test.YtkhegeobdcemkaaGreatDoorSd42
import Derived.Test.YtkhegeobdcemkaaGreatDoorSd41
import Derived.Test.YtkhegeobdcemkaaGreatDoorSd02
import Derived.Test.YtkhegeobdcemkaaGreatDoorSd20
import Derived.Deep.DeepCutAuto
/- The law ScriptSides walked: for every list of numbers it returns true and leaves what was there. -/
namespace Go.Proofs.YtkhegeobdcemkaaGreatDoor
set_option linter.unusedVariables false
open Go.RowKit Go.Sort

set_option maxRecDepth 100000 in
set_option maxHeartbeats 8000000 in
theorem ScriptSides_c (A : Option Addr) (l : List Int) (c : Nat) (w : World) (hr : Rs w 0 w.heap.size 1 intc A l) (hl : l.length ≤ 17592186044416) (ho : ∀ x ∈ l, okI x) (hp : PowLaid w) (hs : SpLaid w) (hm : MaxLaid w) :
    Calls Tryz.prog 5 #[.slice A l.length c] w fun e w' => e = .returned (.bool true) ∧ Below w.heap.size w w' := by
  have S0 := strNew w A l c hr hl ho
  have HW0 := Lib.hid (show (w.alloc (.cells #[.slice A l.length c, .int .i64 0] 25)).heap.size = w.heap.size + 1 by simp)
  have HP := Lib.hid (show PowS w.heap.size (w.alloc (.cells #[.slice A l.length c, .int .i64 0] 25)) from (PowS.start hp).keep fun b hb => Below.heap_alloc w _ b hb)
  have HG := Lib.hid (fun (n : Int) (wx : World) P (h : PvS (w.alloc (.cells #[.slice A l.length c, .int .i64 0] 25)) w.heap.size P n wx) => show Below w.heap.size w wx ∧ SpLaid wx ∧ MaxLaid wx from
    have hb := gEnd h.gr
    ⟨hb, sp_below hs hb (Nat.le_refl _), max_below hm hb (Nat.le_refl _)⟩)
  have G0 := Lib.hid (GS.start (R := dumR) (e := 3) S0)
  clear hr ho hp hs hm S0
  go_enter Tryz.func5, Tryz.ntmps5
  go_upto_region 2 with (fail)
  generalize w.alloc (.cells #[.slice A l.length c, .int .i64 0] 25) = W0 at *
  have hW0s : w.heap.size < W0.heap.size := by have := HW0.out; omega
  go_wp2_with fail
  refine (AnyScript_c w.heap.size 0 W0 G0.out.str (by decide) HP.out).mono ?_
  rintro e w1 ⟨v1, n1, rfl, ⟨t1, l1, sv1, rfl, hsp⟩, hn1, hs1, hg1⟩
  obtain ⟨A1, c1, hv1, _, _⟩ := hsp.1.form
  subst hv1
  obtain ⟨l2, hx⟩ := Sct.any ⟨t1, l1, _, rfl, hsp⟩
  have hG1 := G0.out.turn hg1 hs1
  generalize hL1 : l1.length = Lx at *
  have hG2 := hG1.new (xCs t1 (.slice A1 Lx c1)) 28
  have hx2 := hx.alloc (E' := fun q => q = w1.heap.size) (.cells (xCs t1 (.slice A1 Lx c1)) 28) (fun q h e => by omega)
  have hL2 : l2.length = Lx := by
    obtain ⟨_, _, e, _⟩ := hx.sli.form
    injection e with _ e _
    exact e.symm
  have hXs : W0.heap.size ≤ w1.heap.size := hG1.size
  have hn10 := hs1.nonneg
  clear hsp hs1 hg1 G0 hG1 hx hL1
  rw [show xCs t1 (.slice A1 Lx c1) = #[.string t1, .slice A1 Lx c1] from rfl]
  go_upto_region 3 with (fail)
  generalize hW : w1.alloc (.cells #[.string t1, .slice A1 Lx c1] 28) = w2
  have G2 := Lib.hid (show PvS W0 w.heap.size [(w1.heap.size, xCs t1 (.slice A1 Lx c1), 28)] n1 w2 by rw [← hW]; exact hG2)
  have X2 := Lib.hid (show Sct W0 (fun q => q = w1.heap.size) 10010 91 t1 l2 (.slice A1 Lx c1) w2 by rw [← hW]; exact hx2)
  have HL2 := Lib.hid hL2
  have hLx : Lx ≤ 91 := by have h := X2.out.len; rw [hL2] at h; exact h
  clear hW hG2 hx2 hL2
  generalize w1.heap.size = X at *
  have HCL := Lib.hid (fun (n : Int) (W : World) P (hW : PvS W0 w.heap.size P n W) (hP : (X, xCs t1 (.slice A1 Lx c1), 28) ∈ P) => show W.cell? ⟨X, 0, none⟩ = some (.string t1) ∧ W.cell? ⟨X, 1, none⟩ = some (.slice A1 Lx c1) by
    obtain ⟨x, _⟩ := hW.cell hP
    exact ⟨x 0, x 1⟩)
  obtain ⟨ck, hck⟩ : ∃ ck, chkE ⟨t1, l2.map (·.1)⟩ = ck := ⟨_, rfl⟩
  have HCK := Lib.hid hck
  clear hck
  have hn10' : n1 ≤ 1000000000000000000 := by omega
  go_wp2_with fail
  refine (Speaker_c w.heap.size n1 _ G2.out.str (by omega)).mono ?_
  rintro e w3 ⟨v3, n3, rfl, ⟨nm, hnm, rfl⟩, hn3, hs3, hg3⟩
  have hnz : nm.size ≤ 100 := hnm
  have G3 := Lib.hid (G2.out.turn hg3 hs3)
  have X3 := Lib.hid (X2.out.turn hW0s hg3)
  clear hs3 hg3 hnm G2 X2
  obtain ⟨x0, x1⟩ := HCL.out _ _ _ G3.out (by simp)
  have HSD := Lib.hid (Sides_c t1 l2 (.slice A1 Lx c1) nm w3 (X3.out.scl (by decide) (by decide)) X3.out.fdb (HG.out _ _ _ G3.out).2.2 (by omega))
  go_wp2_with fail
  refine HSD.out.mono ?_
  rintro e w4 ⟨ts, ln, vn, E, rfl, hBn, hE, hsid⟩
  have HE := Lib.hid hE
  have HSI := Lib.hid hsid
  have hG4 := G3.out.below hBn.bo.bel
  have X4 := Lib.hid (X3.out.below hBn.bo.bel)
  have hsn : Sc2 w4 (fun q => q < w4.heap.size) ln vn := ⟨hBn.bo.own.sliF (enc := fun x : Scene × Value => x.1.cells x.2) (hn := fun _ => rfl) (fun g e => (hBn.bo.own.block g e).2), fun y hy => (hBn.inn y hy).more fun q hq => hq.2.1, fun q hq => hq⟩
  obtain ⟨An, cn, hvn, _, _⟩ := hsn.sli.form
  subst hvn
  have G5 := Lib.hid (hG4.new (xCs ts (.slice An ln.length cn)) 28)
  have HSN := Lib.hid hsn
  obtain ⟨Ln, hLn⟩ : ∃ Ln, ln.length = Ln := ⟨_, rfl⟩
  rw [hLn] at G5 HSN
  rw [show xCs ts (.slice An ln.length cn) = #[.string ts, .slice An Ln cn] by rw [hLn]; rfl]
  clear hBn hE hsid hG4 hsn HSD G3 X3 x0 x1 hLn
  go_upto_region 5 with (fail)
  generalize hW : w4.alloc (.cells #[.string ts, .slice An Ln cn] 28) = w5
  have hG5 : PvS W0 w.heap.size [(w4.heap.size, xCs ts (.slice An Ln cn), 28), (X, xCs t1 (.slice A1 Lx c1), 28)] n3 w5 := by rw [← hW]; exact G5.out
  have hb5 : Below w4.heap.size w4 w5 := by rw [← hW]; exact (Below.refl _ _).alloc (Nat.le_refl _) _
  have G5' := Lib.hid hG5
  have X5 := Lib.hid (X4.out.below hb5)
  have HSN5 := Lib.hid (HSN.out.below hb5)
  clear hW hG5 hb5 G5 X4 HSN
  generalize w4.heap.size = Y at *
  have HCY := Lib.hid (fun (n : Int) (W : World) P (hW : PvS W0 w.heap.size P n W) (hP : (Y, xCs ts (.slice An Ln cn), 28) ∈ P) => show W.cell? ⟨Y, 0, none⟩ = some (.string ts) ∧ W.cell? ⟨Y, 1, none⟩ = some (.slice An Ln cn) by
    obtain ⟨x, _⟩ := hW.cell hP
    exact ⟨x 0, x 1⟩)
  obtain ⟨x0, x1⟩ := HCL.out _ _ _ G5'.out (by simp)
  have HSF := ScriptFault_c t1 l2 (.slice A1 Lx c1) w5 (X5.out.scl (by decide) (by decide)) (HG.out _ _ _ G5'.out).2.1 (HG.out _ _ _ G5'.out).2.2
  have HSF := Lib.hid (HSF.mono (R' := fun e w' => e = .returned (.int .i64 ck) ∧ Below w5.heap.size w5 w') fun e w' h => by unfold ChP at h; rw [HCK.out] at h; exact h)
  go_wp2_with fail
  refine HSF.out.mono ?_
  rintro e w6 ⟨rfl, hb6⟩
  have hY5 : Y < w5.heap.size := G5'.out.plt (p := (Y, xCs ts (.slice An Ln cn), 28)) (by simp)
  have G6 := Lib.hid (G5'.out.below hb6)
  have X6 := Lib.hid (X5.out.below hb6)
  have HSN6 := Lib.hid (HSN5.out.below hb6)
  have hY6 : Y < w6.heap.size := Nat.lt_of_lt_of_le hY5 hb6.size
  clear hb6 HSF G5' X5 HSN5 x0 x1 hY5
  by_cases hc0 : ck = 0
  case neg =>
    obtain rfl : ck = E := by rw [← HE.out]; unfold sidE; rw [HCK.out, if_pos hc0]
    have hne : (ck != 0) = true := bne_iff_ne.2 hc0
    have hee : (ck == ck) = true := beq_self_eq_true _
    have HSC := Lib.hid (scripts_c w6 (HG.out _ _ _ G6.out).2.2)
    have HEN := Lib.hid (HG.out _ _ _ G6.out).1
    clear hc0 HE HSI
    go_wp2_with fail
    refine HSC.out.mono ?_
    rintro e w7 ⟨rfl, hb7⟩
    have HE := Lib.hid (HEN.out.trans (hb7.mono HEN.out.size))
    clear hb7 HEN HSC
    go_wp2
    go_ret
    exact ⟨rfl, HE.out⟩
  subst hc0
  have HRT := Lib.hid (show ∀ x ∈ l2.map (·.1), RtP x.paras from fun x hx => parasE_rt ((chkE_ok HCK.out).sc x hx).2.2.2.2)
  have HNO := Lib.hid (chkE_first HCK.out)
  have HNF := Lib.hid (NameOf_c nm w6 (by omega) (HG.out _ _ _ G6.out).2.1)
  go_wp2_with fail
  refine HNF.out.mono ?_
  rintro e w7 ⟨rfl, hb7⟩
  have G7 := Lib.hid (G6.out.below hb7)
  have X7 := Lib.hid (X6.out.below hb7)
  have HSN7 := Lib.hid (HSN6.out.below hb7)
  have hY7 : Y < w7.heap.size := Nat.lt_of_lt_of_le hY6 hb7.size
  clear hb7 HNF G6 X6 HSN6 hY6
  have HSC := Lib.hid (scripts_c w7 (HG.out _ _ _ G7.out).2.2)
  cases hnb : nameB nm with
  | false =>
    obtain rfl : (5 : Int) = E := by rw [← HE.out]; unfold sidE; rw [HCK.out, if_neg (fun h => h rfl), if_pos hnb]
    have HEN := Lib.hid (HG.out _ _ _ G7.out).1
    clear hnb HE HSI
    go_wp2_with fail
    refine HSC.out.mono ?_
    rintro e w8 ⟨rfl, hb8⟩
    have HE := Lib.hid (HEN.out.trans (hb8.mono HEN.out.size))
    clear hb8 HEN HSC
    go_wp2
    go_ret
    exact ⟨rfl, HE.out⟩
  | true =>
  have HSE := Lib.hid (show E = if (sidS (l2.map (·.1)) nm).isEmpty = true then 8 else 0 by rw [← HE.out]; unfold sidE; rw [HCK.out, if_neg (fun h => h rfl), if_neg (by rw [hnb]; decide)])
  obtain ⟨x0, x1⟩ := HCL.out _ _ _ G7.out (by simp)
  have HSO := Lib.hid (SidesOf_c t1 l2 (.slice A1 Lx c1) nm w7 X7.out.sc2 X7.out.fdb HRT.out HNO.out hnb)
  clear hnb HSC HE
  go_wp2_with fail
  refine HSO.out.mono ?_
  rintro e w8 ⟨lz, vz, rfl, hBz, hlz⟩
  have HLZ := Lib.hid hlz
  have hG8 := G7.out.below hBz.bo.bel
  have HSN8 := Lib.hid (HSN7.out.below hBz.bo.bel)
  have hY8 : Y < w8.heap.size := Nat.lt_of_lt_of_le hY7 hBz.bo.bel.size
  have hsz : Sc2 w8 (fun q => q < w8.heap.size) lz vz := ⟨hBz.bo.own.sliF (enc := fun x : Scene × Value => x.1.cells x.2) (hn := fun _ => rfl) (fun g e => (hBz.bo.own.block g e).2), fun y hy => (hBz.inn y hy).more fun q hq => hq.2.1, fun q hq => hq⟩
  obtain ⟨Az, cz, hvz, _, _⟩ := hsz.sli.form
  subst hvz
  have G9 := Lib.hid (hG8.new (xCs t1 (.slice Az lz.length cz)) 28)
  have HSZ := Lib.hid hsz
  obtain ⟨Lz, hLz⟩ : ∃ Lz, lz.length = Lz := ⟨_, rfl⟩
  rw [hLz] at G9 HSZ
  rw [show xCs (Script.mk t1 (l2.map (·.1))).title (.slice Az lz.length cz) = #[.string t1, .slice Az Lz cz] by rw [hLz]; rfl]
  clear hBz hlz hG8 hsz HSO G7 X7 HSN7 x0 x1 hLz
  obtain ⟨em, hem⟩ : ∃ em, (sidS (l2.map (·.1)) nm).isEmpty = em := ⟨_, rfl⟩
  have HEM := Lib.hid hem
  rw [hem]
  clear hem
  go_upto_region 11 with (fail)
  generalize hW : w8.alloc (.cells #[.string t1, .slice Az Lz cz] 28) = w9
  have hb9 : Below w8.heap.size w8 w9 := by rw [← hW]; exact (Below.refl _ _).alloc (Nat.le_refl _) _
  have G9' := Lib.hid (show PvS W0 w.heap.size [(w8.heap.size, xCs t1 (.slice Az Lz cz), 28), (Y, xCs ts (.slice An Ln cn), 28), (X, xCs t1 (.slice A1 Lx c1), 28)] n3 w9 by rw [← hW]; exact G9.out)
  have HSN9 := Lib.hid (HSN8.out.below hb9)
  have HSZ9 := Lib.hid (HSZ.out.below hb9)
  have hz9 : w8.heap.size < w9.heap.size := G9'.out.plt (p := (w8.heap.size, xCs t1 (.slice Az Lz cz), 28)) (by simp)
  clear hW hb9 G9 HSN8 HSZ
  generalize w8.heap.size = Z at *
  have HCZ := Lib.hid (fun (n : Int) (W : World) P (hW : PvS W0 w.heap.size P n W) (hP : (Z, xCs t1 (.slice Az Lz cz), 28) ∈ P) => show W.cell? ⟨Z, 0, none⟩ = some (.string t1) ∧ W.cell? ⟨Z, 1, none⟩ = some (.slice Az Lz cz) by
    obtain ⟨x, _⟩ := hW.cell hP
    exact ⟨x 0, x 1⟩)
  have HSC := Lib.hid (scripts_c w9 (HG.out _ _ _ G9'.out).2.2)
  cases em with
  | true =>
    obtain rfl : E = 8 := by rw [HSE.out, if_pos HEM.out]
    have HEN := Lib.hid (HG.out _ _ _ G9'.out).1
    clear HSE HSI
    go_wp2_with fail
    refine HSC.out.mono ?_
    rintro e w10 ⟨rfl, hb10⟩
    have HE := Lib.hid (HEN.out.trans (hb10.mono HEN.out.size))
    clear hb10 HEN HSC
    go_wp2
    go_ret
    exact ⟨rfl, HE.out⟩
  | false =>
  obtain rfl : E = 0 := by rw [HSE.out, if_neg (by rw [HEM.out]; decide)]
  obtain ⟨hts, hls⟩ := HSI.out rfl
  subst hts
  have HLS := Lib.hid hls
  clear HSE HSI hls
  go_wp2_with fail
  refine HSC.out.mono ?_
  rintro e w10 ⟨rfl, hb10⟩
  have G10 := Lib.hid (G9'.out.below hb10)
  have hS1 : Sc2 w10 (fun q => q < w10.heap.size) ln (.slice An Ln cn) := by
    have h := HSN9.out.below hb10
    exact ⟨h.sli.more fun q hq => (by have := hb10.size; omega), fun y hy => (h.par y hy).more fun q hq => (by have := hb10.size; omega), fun q hq => hq⟩
  have hS2 : Sc2 w10 (fun q => q < w10.heap.size) lz (.slice Az Lz cz) := by
    have h := HSZ9.out.below hb10
    exact ⟨h.sli.more fun q hq => (by have := hb10.size; omega), fun y hy => (h.par y hy).more fun q hq => (by have := hb10.size; omega), fun q hq => hq⟩
  have HSS := SameScripts_c ts ts ln lz _ _ w10 hS1 hS2
  rw [decide_eq_true (by rw [HLS.out, HLZ.out])] at HSS
  have HSS := Lib.hid HSS
  obtain ⟨y0, y1⟩ := HCY.out _ _ _ G10.out (by simp)
  obtain ⟨z0, z1⟩ := HCZ.out _ _ _ G10.out (by simp)
  have HEN := Lib.hid (HG.out _ _ _ G10.out).1
  clear hb10 HSC G9' HSN9 HSZ9 hS1 hS2 G10
  go_wp2_with fail
  refine HSS.out.mono ?_
  rintro e w11 ⟨rfl, hb11⟩
  have HE := Lib.hid (HEN.out.trans (hb11.mono HEN.out.size))
  clear hb11 HEN HSS
  go_wp2
  go_ret
  exact ⟨rfl, HE.out⟩
end Go.Proofs.YtkhegeobdcemkaaGreatDoor

