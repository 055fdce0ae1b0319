/- Texts packed: LawScriptLines. -/
import Derived.Test.YtnemcnpilngblaaGreatDoorRows
import Derived.Test.YtnemcnpilngblaaGreatDoorSc28
import Derived.Test.YtnemcnpilngblaaGreatDoorSc40
import Derived.Test.YtnemcnpilngblaaGreatDoorSc02
import Derived.Test.YtnemcnpilngblaaGreatDoorSc18
import Derived.Test.YtnemcnpilngblaaGreatDoorSc36
import Derived.Deep.DeepCutAuto
/- The law ScriptLines walked: for every list of numbers it returns true and leaves what was there. -/
namespace Go.Proofs.YtnemcnpilngblaaGreatDoor
set_option linter.unusedVariables false
open Go.RowKit Go.Sort

set_option maxRecDepth 100000 in
set_option maxHeartbeats 8000000 in
theorem LawScriptLines_c (A : Option Addr) (l : List Int) (c : Nat) (w : World) (hr : Rs w 0 w.heap.size 1 intc A l) (hl : l.length ≤ 17592186044416) (ho : ∀ x ∈ l, okI x) (hp : PowLaid w) (hs : SpLaid w) (hm : MaxLaid w) :
    Calls Tryz.prog 6 #[.slice A l.length c] w fun e w' => e = .returned (.bool true) ∧ Below w.heap.size w w' := by
  have S0 := strNew w A l c hr hl ho
  have HW0 := Lib.hid (show (w.alloc (.cells #[.slice A l.length c, .int .i64 0] 25)).heap.size = w.heap.size + 1 by simp)
  have HP := Lib.hid (show PowS w.heap.size (w.alloc (.cells #[.slice A l.length c, .int .i64 0] 25)) from (PowS.start hp).keep fun b hb => Below.heap_alloc w _ b hb)
  have HG := Lib.hid (fun (n : Int) (wx : World) P (h : PvS (w.alloc (.cells #[.slice A l.length c, .int .i64 0] 25)) w.heap.size P n wx) => show Below w.heap.size w wx ∧ SpLaid wx ∧ MaxLaid wx from
    have hb := gEnd h.gr
    ⟨hb, sp_below hs hb (Nat.le_refl _), max_below hm hb (Nat.le_refl _)⟩)
  have G0 := Lib.hid (GS.start (R := dumR) (e := 3) S0)
  clear hr ho hp hs hm S0
  go_enter Tryz.func6, Tryz.ntmps6
  go_upto_region 2 with (fail)
  generalize w.alloc (.cells #[.slice A l.length c, .int .i64 0] 25) = W0 at *
  go_wp2_with fail
  refine (AnyScript_c w.heap.size 0 W0 G0.out.str (by decide) HP.out).mono ?_
  rintro e w1 ⟨v1, n1, rfl, ⟨t1, l1, sv1, rfl, hsp⟩, hn1, hs1, hg1⟩
  obtain ⟨A1, c1, hv1, _, _⟩ := hsp.1.form
  subst hv1
  obtain ⟨l2, hx⟩ := Sct.any ⟨t1, l1, _, rfl, hsp⟩
  have hG1 := G0.out.turn hg1 hs1
  generalize hL1 : l1.length = Lx at *
  have hG2 := hG1.new (xCs t1 (.slice A1 Lx c1)) 44
  have hx2 := hx.alloc (E' := fun q => q = w1.heap.size) (.cells (xCs t1 (.slice A1 Lx c1)) 44) (fun q h e => by omega)
  have hL2 : l2.length = Lx := by
    obtain ⟨_, _, e, _⟩ := hx.sli.form
    injection e with _ e _
    exact e.symm
  have hXs : W0.heap.size ≤ w1.heap.size := hG1.size
  clear hsp hs1 hg1 G0 hG1 hx hL1
  rw [show xCs t1 (.slice A1 Lx c1) = #[.string t1, .slice A1 Lx c1] from rfl]
  go_upto_region 3 with (fail)
  generalize hW : w1.alloc (.cells #[.string t1, .slice A1 Lx c1] 44) = w2
  have G2 := Lib.hid (show PvS W0 w.heap.size [(w1.heap.size, xCs t1 (.slice A1 Lx c1), 44)] n1 w2 by rw [← hW]; exact hG2)
  have X2 := Lib.hid (show Sct W0 (fun q => q = w1.heap.size) 10010 91 t1 l2 (.slice A1 Lx c1) w2 by rw [← hW]; exact hx2)
  have HL2 := Lib.hid hL2
  have hLx : Lx ≤ 91 := by have h := X2.out.len; rw [hL2] at h; exact h
  clear hW hG2 hx2 hL2
  generalize w1.heap.size = X at *
  have HCL := Lib.hid (fun (n : Int) (W : World) P (hW : PvS W0 w.heap.size ((X, xCs t1 (.slice A1 Lx c1), 44) :: P) n W) => show W.cell? ⟨X, 0, none⟩ = some (.string t1) ∧ W.cell? ⟨X, 1, none⟩ = some (.slice A1 Lx c1) from
    have ⟨x, _⟩ := hW.cell (p := (X, xCs t1 (.slice A1 Lx c1), 44)) (by simp)
    ⟨x 0, x 1⟩)
  obtain ⟨ck, hck⟩ : ∃ ck, chkE ⟨t1, l2.map (·.1)⟩ = ck := ⟨_, rfl⟩
  have HCK := Lib.hid hck
  clear hck
  have hsb : w.heap.size < W0.heap.size := by have := HW0.out; omega
  have hn10 : 0 ≤ n1 := G2.out.str.nonneg
  obtain ⟨mm, hMM⟩ : ∃ m : Int, (mk8 (cntK (l2.map (·.1)) (l2.map (·.1)).length) : Int) = m := ⟨_, rfl⟩
  have HMM := Lib.hid hMM
  clear hMM
  obtain ⟨x0, x1⟩ := HCL.out _ _ _ G2.out
  have HSF := Lib.hid ((ScriptFault_c t1 l2 (.slice A1 Lx c1) w2 (X2.out.scl (by decide) (by decide)) (HG.out _ _ _ G2.out).2.1 (HG.out _ _ _ G2.out).2.2).mono (R' := fun e w' => e = .returned (.int .i64 ck) ∧ Below w2.heap.size w2 w') fun e w' h => by unfold ChP at h; rw [HCK.out] at h; exact h)
  go_wp2_with fail
  refine HSF.out.mono ?_
  rintro e w3 ⟨rfl, hb3⟩
  have G3 := Lib.hid (G2.out.below hb3)
  have X3 := Lib.hid (X2.out.below hb3)
  clear hb3 HSF G2 X2 x0 x1
  obtain ⟨x0, x1⟩ := HCL.out _ _ _ G3.out
  have HEI := Lib.hid ((Eighths_c t1 l2 (.slice A1 Lx c1) w3 (X3.out.scl (by decide) (by decide)) (HG.out _ _ _ G3.out).2.2).mono (R' := fun e w' => ∃ (v : Value) (m : Int), e = .returned (.tuple #[v, .int .i64 m, .int .i64 ck]) ∧ Below w3.heap.size w3 w' ∧ ((¬ ck = 0 ∧ v = .slice none 0 0 ∧ m = 0) ∨ (ck = 0 ∧ m = mm ∧ Own intR w' w3.heap.size w3.heap.size 3 (eigK (l2.map (·.1)) (l2.map (·.1)).length) v))) fun e w' h => by unfold EigP at h; dsimp only at h; rw [HCK.out, HMM.out] at h; exact h)
  go_wp2_with fail
  refine HEI.out.mono ?_
  rintro e w4 ⟨ve, me, rfl, hb4, hei⟩
  have G4 := Lib.hid (G3.out.below hb4)
  have X4 := Lib.hid (X3.out.below hb4)
  have hz43 := hb4.size
  have hz30 := G3.out.size
  obtain ⟨Ae, ne, ce, hve⟩ : ∃ Ae ne ce, ve = .slice Ae ne ce := by
    rcases hei with ⟨_, h, _⟩ | ⟨_, _, h⟩
    · exact ⟨_, _, _, h⟩
    · exact own_form h
  subst hve
  have HEM := Lib.hid (show ck = 0 → me = mm ∧ Sli intR w4 (fun q => w.heap.size < q ∧ q < w4.heap.size) (eigK (l2.map (·.1)) (l2.map (·.1)).length) (.slice Ae ne ce) from fun h0 => by
    rcases hei with ⟨h, _⟩ | ⟨_, h1, h2⟩
    · exact absurd h0 h
    · exact ⟨h1, h2.sliF (enc := fun x : Int => [.int .i64 x]) (hn := fun _ => rfl) (fun g e => by have := h2.block g e; exact ⟨by omega, by omega⟩)⟩)
  clear hb4 HEI G3 X3 x0 x1 hei
  obtain ⟨x0, x1⟩ := HCL.out _ _ _ G4.out
  go_wp2_with fail
  refine (range_c w.heap.size n1 (-1) (Lx : Int) _ G4.out.str (by omega) (by omega) (by decide) (by omega)).mono ?_
  rintro e w5 ⟨v5, n5, rfl, ⟨k, hk, rfl⟩, hn5, hs5, hg5⟩
  have G5 := Lib.hid (G4.out.turn hg5 hs5)
  have X5 := Lib.hid (X4.out.turn hsb hg5)
  have hz54 := hg5.size
  have HEM5 := Lib.hid (fun (h0 : ck = 0) => ((HEM.out h0).2.keep (fun q hq => hg5.block q hq.2 (by simp; omega))).more (G := fun q => q < w5.heap.size) (fun q hq => by omega))
  have HME := Lib.hid (fun (h0 : ck = 0) => (HEM.out h0).1)
  clear hg5 hs5 G4 X4 HEM x0 x1
  obtain ⟨x0, x1⟩ := HCL.out _ _ _ G5.out
  obtain ⟨le, hle⟩ : ∃ q, lnE ⟨t1, l2.map (·.1)⟩ k = q := ⟨_, rfl⟩
  have HLE := Lib.hid hle
  have HLI := Lib.hid ((Lines_c t1 l2 (.slice A1 Lx c1) k w5 (X5.out.scl (by decide) (by decide)) (HG.out _ _ _ G5.out).2.2 (by omega)).mono (R' := fun e w' => ∃ v, e = .returned (.tuple #[v, .int .i64 le]) ∧ Below w5.heap.size w5 w' ∧ ((¬ le = 0 ∧ v = .slice none 0 0) ∨ (le = 0 ∧ ∀ y, (l2.map (·.1))[k.toNat]? = some y → Own strR w' w5.heap.size w5.heap.size 9 (linesS y) v))) fun e w' h => by unfold LinP at h; rw [HLE.out] at h; exact h)
  clear hle
  go_wp2_with fail
  refine HLI.out.mono ?_
  rintro e w6 ⟨vl, rfl, hb6, hli⟩
  have G6 := Lib.hid (G5.out.below hb6)
  have X6 := Lib.hid (X5.out.below hb6)
  have hz65 := hb6.size
  have HEM6 := Lib.hid (fun (h0 : ck = 0) => ((HEM5.out h0).below hb6 (fun q hq => hq)).more (G := fun q => q < w6.heap.size) (fun q hq => by omega))
  have HLE2 := Lib.hid (show le = if ¬ ck = 0 then ck else if k < 0 ∨ (Lx : Int) ≤ k then 8 else 0 by rw [← HLE.out]; unfold lnE; rw [HCK.out, List.length_map, HL2.out])
  have hlf : (∃ A n c, vl = .slice A n c) := by
    rcases hli with ⟨_, h⟩ | ⟨h0, h⟩
    · exact ⟨_, _, _, h⟩
    · have h2 := HLE2.out
      by_cases hck : ck = 0
      · rw [if_neg (fun h => h hck)] at h2
        have h3 : ¬ (k < 0 ∨ (Lx : Int) ≤ k) := fun h3 => by rw [if_pos h3, h0] at h2; exact absurd h2 (by decide)
        have hkl : k.toNat < (l2.map (·.1)).length := by rw [List.length_map, HL2.out]; omega
        exact own_form (h _ (List.getElem?_eq_getElem hkl))
      · rw [if_pos hck, h0] at h2
        exact absurd h2.symm hck
  obtain ⟨Al, nl, cl, rfl⟩ := hlf
  have HLI2 := Lib.hid hli
  clear hb6 HLI G5 X5 HEM5 x0 x1 hli
  obtain ⟨x0, x1⟩ := HCL.out _ _ _ G6.out
  by_cases hc0 : ck = 0
  case neg =>
    have hle : le = ck := by rw [HLE2.out, if_pos hc0]
    subst hle
    have hne : (le != 0) = true := bne_iff_ne.2 hc0
    have hee : (le == le) = true := beq_self_eq_true _
    have HSC := Lib.hid (scripts_c w6 (HG.out _ _ _ G6.out).2.2)
    have HEN := Lib.hid (HG.out _ _ _ G6.out).1
    clear hc0
    go_wp2_with fail
    refine HSC.out.mono ?_
    rintro e w7 ⟨rfl, hb7⟩
    have HE := Lib.hid (HEN.out.trans (hb7.mono HEN.out.size))
    clear hb7 HEN HSC
    go_wp2
    go_ret
    exact ⟨rfl, HE.out⟩
  subst hc0
  have HME2 := Lib.hid (HME.out rfl)
  have HSL6 := Lib.hid (HEM6.out rfl)
  have HLE3 := Lib.hid (HLE2.out.trans (if_neg (by decide)))
  clear HME HEM6 HLE2
  have HEO := Lib.hid ((EighthsOf_c t1 l2 (.slice A1 Lx c1) w6 (X6.out.scl (by decide) (by decide)) HCK.out (HG.out _ _ _ G6.out).2.1).mono (R' := fun e w' => ∃ v, e = .returned (.tuple #[v, .int .i64 mm]) ∧ Below w6.heap.size w6 w' ∧ Own intR w' w6.heap.size w6.heap.size 3 (eigK (l2.map (·.1)) (l2.map (·.1)).length) v) fun e w' h => by unfold EofP at h; rw [HMM.out] at h; exact h)
  have hme : me = mm := HME2.out
  subst hme
  go_wp2_with fail
  refine HEO.out.mono ?_
  rintro e w7 ⟨v7, rfl, hb7, ho7⟩
  have G7 := Lib.hid (G6.out.below hb7)
  have X7 := Lib.hid (X6.out.below hb7)
  have hz76 := hb7.size
  obtain ⟨A7, n7, c7, rfl⟩ := own_form ho7
  have HEQ := eqInt_c _ _ (.slice Ae ne ce) (.slice A7 n7 c7) (fun q => q < w7.heap.size) w7 ((HSL6.out.below hb7 (fun q hq => hq)).more (fun q hq => by omega)) (ho7.sliF (enc := fun x : Int => [.int .i64 x]) (hn := fun _ => rfl) (fun g e => (ho7.block g e).2)) (fun q hq => hq)
  rw [decide_eq_true rfl] at HEQ
  have HEQ := Lib.hid HEQ
  have HLI7 := Lib.hid (show le = 0 → ∀ y, (l2.map (·.1))[k.toNat]? = some y → Own strR w7 w5.heap.size w5.heap.size 9 (linesS y) (.slice Al nl cl) from fun h0 y hy => by
    rcases HLI2.out with ⟨h, _⟩ | ⟨_, h⟩
    · exact absurd h0 h
    · exact (h y hy).below hb7)
  have hmm : (me != me) = false := by simp
  clear hb7 ho7 HEO G6 X6 HSL6 x0 x1 HME2 HLI2
  obtain ⟨x0, x1⟩ := HCL.out _ _ _ G7.out
  go_wp2_with fail
  refine HEQ.out.mono ?_
  rintro e w8 ⟨rfl, hb8⟩
  have G8 := Lib.hid (G7.out.below hb8)
  have X8 := Lib.hid (X7.out.below hb8)
  have HLI8 := Lib.hid (fun h0 y hy => (HLI7.out h0 y hy).below hb8)
  have hz87 := hb8.size
  clear hb8 HEQ G7 X7 HLI7 x0 x1
  obtain ⟨x0, x1⟩ := HCL.out _ _ _ G8.out
  have HSC := Lib.hid (scripts_c w8 (HG.out _ _ _ G8.out).2.2)
  have HEN := Lib.hid (HG.out _ _ _ G8.out).1
  by_cases hk0 : k < 0
  · have hle : le = 8 := by rw [HLE3.out, if_pos (.inl hk0)]
    subst hle
    go_wp2_with fail
    refine HSC.out.mono ?_
    rintro e w9 ⟨rfl, hb9⟩
    have HE := Lib.hid (HEN.out.trans (hb9.mono HEN.out.size))
    clear hb9 HEN HSC
    go_wp2
    go_ret
    exact ⟨rfl, HE.out⟩
  by_cases hkL : (Lx : Int) ≤ k
  · have hle : le = 8 := by rw [HLE3.out, if_pos (.inr hkL)]
    subst hle
    have hk0' : 0 ≤ k := by omega
    clear hk0
    go_wp2_with fail
    refine HSC.out.mono ?_
    rintro e w9 ⟨rfl, hb9⟩
    have HE := Lib.hid (HEN.out.trans (hb9.mono HEN.out.size))
    clear hb9 HEN HSC
    go_wp2
    go_ret
    exact ⟨rfl, HE.out⟩
  have hle : le = 0 := by rw [HLE3.out, if_neg (by omega)]
  subst hle
  obtain ⟨n, rfl⟩ : ∃ n : Nat, k = (n : Int) := ⟨k.toNat, by omega⟩
  have hnI : (n : Int) < (Lx : Int) := by omega
  have hnl : n < l2.length := by rw [HL2.out]; omega
  have HOW := Lib.hid (HLI8.out rfl (l2[n]'hnl).1 (by rw [show (n : Int).toNat = n from rfl, List.getElem?_map, List.getElem?_eq_getElem hnl]; rfl))
  have hok := LnOk.of (chkE_ok HCK.out) (y := (l2[n]'hnl).1) (List.mem_map_of_mem (List.getElem_mem hnl))
  clear HLI8 hk0 hkL HLE3 HLE
  go_wp2_with fail
  refine HSC.out.mono ?_
  rintro e w9 ⟨rfl, hb9⟩
  have G9 := Lib.hid (G8.out.below hb9)
  have X9 := Lib.hid (X8.out.below hb9)
  have HO9 := Lib.hid (HOW.out.below hb9)
  have HE9 := Lib.hid (HEN.out.trans (hb9.mono HEN.out.size))
  clear hb9 HEN HSC G8 X8 x0 x1 HOW
  obtain ⟨x0, x1⟩ := HCL.out _ _ _ G9.out
  obtain ⟨b, off, rfl, hfb, c0, c1', c2, c3, c4⟩ := scAt X9.out.sli n hnl
  have hsp := X9.out.par _ (List.getElem_mem hnl)
  obtain ⟨A4, cc4, h4, _, _⟩ := hsp.form
  rw [h4] at c4
  rw [h4] at hsp
  have HLO := Lib.hid (LinesOf_c (l2[n]'hnl).1 (.slice A4 (l2[n]'hnl).1.paras.length cc4) w9 hsp (fun q hq => hq.2.1) hok (HG.out _ _ _ G9.out).2.1)
  clear hok h4 hsp
  generalize (l2[n]'hnl).1 = x at *
  generalize x.paras.length = pl at *
  go_wp2_with fail
  refine HLO.out.mono ?_
  rintro e wA ⟨vA, rfl, hbA, hoA⟩
  obtain ⟨AA, nA, cA, rfl⟩ := own_form hoA
  have hOA := HO9.out.below hbA
  have HEQ := eqStr_c (linesS x) (linesS x) (.slice Al nl cl) (.slice AA nA cA) (fun q => q < wA.heap.size) wA (hOA.sliF (enc := fun x : ByteArray => [.string x]) (hn := fun _ => rfl) (fun g e => (hOA.block g e).2)) (hoA.sliF (enc := fun x : ByteArray => [.string x]) (hn := fun _ => rfl) (fun g e => (hoA.block g e).2)) (fun q hq => hq)
  rw [decide_eq_true rfl] at HEQ
  have HEQ := Lib.hid HEQ
  have HEA := Lib.hid (HE9.out.trans (hbA.mono HE9.out.size))
  clear hbA hoA hOA HLO
  go_wp2_with fail
  refine HEQ.out.mono ?_
  rintro e wB ⟨rfl, hbB⟩
  have HEB := Lib.hid (HEA.out.trans (hbB.mono HEA.out.size))
  clear hbB HEQ
  go_wp2
  go_ret
  exact ⟨rfl, HEB.out⟩
end Go.Proofs.YtnemcnpilngblaaGreatDoor

