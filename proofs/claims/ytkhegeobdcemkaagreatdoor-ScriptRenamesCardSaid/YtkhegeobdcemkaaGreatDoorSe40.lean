/- Texts packed: RoW. -/
import Derived.Test.YtkhegeobdcemkaaGreatDoorSe38
import Derived.Test.YtkhegeobdcemkaaGreatDoorSe34
import Derived.Test.YtkhegeobdcemkaaGreatDoorSe39
import Derived.Test.YtkhegeobdcemkaaGreatDoorSe18
/- R.RenameOf, walked. -/
namespace Go.Proofs.YtkhegeobdcemkaaGreatDoor
set_option linter.unusedVariables false
open Go.RowKit Go.Sort

/-- A list that a call has made takes the place of none. -/
theorem BM.take {α : Type} {n : Nat} {enc : α → List Value} {hn : ∀ x, (enc x).length = n} {e : TypeId} {w wx wy : World} {l : List α} {v : Value} {P : List Pb} (h : BM (Rep.flat n enc hn) e w [] (.slice none 0 0) P wx) (hb : Below wx.heap.size wx wy) (ho : Own (Rep.flat n enc hn) wy wx.heap.size wx.heap.size e l v) : BM (Rep.flat n enc hn) e w l v P wy := by
  have h2 := h.below hb
  refine ⟨h2.bel, Own.less (enc := enc) (hn := hn) ho h.size, fun p hp => ?_⟩
  obtain ⟨a, b, c, _⟩ := h2.prv p hp
  refine ⟨a, b, c, fun e => ?_⟩
  have h3 := (h.prv p hp).2.2.1
  have h4 := (ho.block _ e).1
  omega
theorem BI.sc2 {w wx : World} {l : List (Scene × Value)} {v : Value} {P : List (Nat × Array Value × TypeId)} (h : BI w l v P wx) : Sc2 wx (fun q => q < wx.heap.size) l v :=
  ⟨h.bo.own.sliF (enc := fun x : Scene × Value => x.1.cells x.2) (hn := fun _ => rfl) (fun g e => (h.bo.own.block g e).2), fun y hy => (h.inn y hy).more fun q hq => hq.2.1, fun q hq => hq⟩
set_option maxRecDepth 100000 in
set_option maxHeartbeats 8000000 in
theorem RenameOf_c {F : Nat → Prop} (t : ByteArray) (ls : List (Scene × Value)) (v : Value) (fr tn : ByteArray) (w : World) (h : ScL w F t ls v) (hB : FdB (ls.map (·.1))) (hm : MaxLaid w) (hsp : SpLaid w) (hf1 : fr.size ≤ 1000) (ht1 : tn.size ≤ 1000) :
    Calls Tryz.prog 21 #[.agg #[.string t, v], .string fr, .string tn] w (RnP ⟨t, ls.map (·.1)⟩ fr tn w) := by
  obtain ⟨i0, hi0, hz0, hz1, hz2⟩ := info_parts (show (Tryz.prog.info? 71).map (fun i => (i.zero, i.size, i.bytes)) = some (some (.agg #[.string ⟨#[]⟩, .int .i64 0, .string ⟨#[]⟩, .int .i64 0, .slice none 0 0]), 5, 72) by kernel_rfl)
  obtain ⟨A, c, rfl, hlc, hcm⟩ := h.sli.form
  obtain ⟨L, hL⟩ : ∃ L, ls.length = L := ⟨_, rfl⟩
  have HL := Lib.hid hL
  have hl : L ≤ 1000 := by have := hB.1; rw [List.length_map] at this; omega
  have HBB := Lib.hid hB.2
  have HBF := Lib.hid hB
  rw [hL] at h hlc ⊢
  have H := Lib.hid h
  have HM := Lib.hid hm
  have HSP := Lib.hid hsp
  clear h hm hL hB hsp
  have eg : ∀ args W, (callFunc 60 args).run Tryz.prog W = .ok (.enter 60 args) W := fun _ _ => by kernel_rfl
  go_enter Tryz.func21, Tryz.ntmps21
  go_upto_region 1 with (fail)
  have hG : BI w [] (.slice none 0 0) [(w.heap.size + 1, xCs ⟨#[]⟩ (.slice none 0 0), 28), (w.heap.size, xCs t (.slice A L c), 28)] ((w.alloc (.cells (xCs t (.slice A L c)) 28)).alloc (.cells (xCs ⟨#[]⟩ (.slice none 0 0)) 28)) := by
    have h := ((BI.start w).new (xCs t (.slice A L c)) 28).new (xCs ⟨#[]⟩ (.slice none 0 0)) 28
    rw [show (w.alloc (.cells (xCs t (.slice A L c)) 28)).heap.size = w.heap.size + 1 by simp] at h
    exact h
  generalize hW : (w.alloc (.cells #[.string t, .slice A L c] 28)).alloc (.cells #[.string ⟨#[]⟩, .slice none 0 0] 28) = w1
  have G1 := Lib.hid (show BI w [] (.slice none 0 0) [(w.heap.size + 1, xCs ⟨#[]⟩ (.slice none 0 0), 28), (w.heap.size, xCs t (.slice A L c), 28)] w1 by rw [← hW]; exact hG)
  clear hG hW
  have HCX := Lib.hid (fun (W : World) l v P (hW : BI w l v P W) (hP : (w.heap.size, xCs t (.slice A L c), 28) ∈ P) => show W.cell? ⟨w.heap.size, 0, none⟩ = some (.string t) ∧ W.cell? ⟨w.heap.size, 1, none⟩ = some (.slice A L c) by
    obtain ⟨gx, _⟩ := hW.cell hP
    exact ⟨gx 0, gx 1⟩)
  have HCR := Lib.hid (fun (W : World) l v P (hW : BI w l v P W) (hP : (w.heap.size + 1, xCs ⟨#[]⟩ (.slice none 0 0), 28) ∈ P) => show W.cell? ⟨w.heap.size + 1, 0, none⟩ = some (.string ⟨#[]⟩) ∧ W.cell? ⟨w.heap.size + 1, 1, none⟩ = some (.slice none 0 0) ∧ W.frozen? ⟨w.heap.size + 1, 0, none⟩ = false ∧ W.frozen? ⟨w.heap.size + 1, 1, none⟩ = false by
    obtain ⟨gx, gf⟩ := hW.cell hP
    exact ⟨gx 0, gx 1, gf 0, gf 1⟩)
  obtain ⟨d0, d1⟩ := HCX.out _ _ _ _ G1.out (by simp)
  have HCK := Lib.hid (show Calls Tryz.prog 11 #[.agg #[.string t, .slice A L c]] w1 (ChP ⟨t, ls.map (·.1)⟩ w1) from ScriptFault_c t ls (.slice A L c) w1 (by have h := H.out.below G1.out.bo.bel; rw [← HL.out] at h ⊢; exact h) (sp_below HSP.out G1.out.bo.bel (Nat.le_refl _)) (max_below HM.out G1.out.bo.bel (Nat.le_refl _)))
  go_wp2_with fail
  refine HCK.out.mono ?_
  rintro e w2 ⟨rfl, hb2⟩
  have G2 := Lib.hid (G1.out.below hb2)
  obtain ⟨E, hE⟩ : ∃ E, chkE ⟨t, ls.map (·.1)⟩ = E := ⟨_, rfl⟩
  have HEG := Lib.hid hE
  rw [hE]
  clear hE hb2 G1 d0 d1 HCK
  have HNIL := Lib.hid (fun (W : World) (hb : Below w.heap.size w W) (E' : Int) (hE : renE ⟨t, ls.map (·.1)⟩ fr tn = E') (h0 : ¬ E' = 0) =>
    show RnP ⟨t, ls.map (·.1)⟩ fr tn w (.returned (.tuple #[.agg (xCs ⟨#[]⟩ (.slice none 0 0)), .int .i64 0, .int .i64 E'])) ((W.setCell ⟨w.heap.size + 1, 0, none⟩ (.string ⟨#[]⟩)).setCell ⟨w.heap.size + 1, 1, none⟩ (.slice none 0 0)) from
      RnP.err (belSet (belSet hb (by dsimp only; omega) _) (by dsimp only; omega) _) hE h0)
  by_cases hE0 : E = 0
  case neg =>
    have q1 : (E != 0) = true := bne_iff_ne.2 hE0
    have HNN := Lib.hid (HNIL.out w2 G2.out.bo.bel E (by unfold renE; rw [HEG.out, if_pos hE0]) hE0)
    obtain ⟨y0, y1, f0, f1⟩ := HCR.out _ _ _ _ G2.out (by simp)
    clear HNIL hE0
    go_wp2
    refine ⟨rfl, .tuple #[.agg (xCs ⟨#[]⟩ (.slice none 0 0)), .int .i64 0, .int .i64 E], (by rw [results_cell_tmp2 rfl]; go_simp; rfl), ?_⟩
    exact HNN.out
  subst hE0
  have HRT := Lib.hid (show ∀ x ∈ ls.map (·.1), RtP x.paras from fun x hx => parasE_rt ((chkE_ok HEG.out).sc x hx).2.2.2.2)
  have HRE := Lib.hid (show renE ⟨t, ls.map (·.1)⟩ fr tn = (if nameB fr = false ∨ nameB tn = false then 5 else if hasB (ls.map (·.1)) fr = false then 8 else if ¬ tn = fr ∧ hasB (ls.map (·.1)) tn = true then 6 else if lrgL fr tn (seenP (ls.map (·.1)) (ls.map (·.1)).length) = true then 2 else if frmL fr tn (seenP (ls.map (·.1)) (ls.map (·.1)).length) = true then 3 else 0) by unfold renE; rw [HEG.out, if_neg (fun h => h rfl)])
  have HNF := Lib.hid (fun (s : ByteArray) (W : World) (hs : s.size ≤ 1000) (hW : Below w.heap.size w W) => NameOf_c s W (by omega) (sp_below HSP.out hW (Nat.le_refl _)))
  have HI1 := Lib.hid (HNF.out fr w2 hf1 G2.out.bo.bel)
  obtain ⟨n1, hn1⟩ : ∃ n1, nameB fr = n1 := ⟨_, rfl⟩
  obtain ⟨n2, hn2⟩ : ∃ n2, nameB tn = n2 := ⟨_, rfl⟩
  have HN1 := Lib.hid hn1
  rw [hn1] at HI1
  rw [hn1, hn2] at HRE
  have HN2 := Lib.hid hn2
  clear hn1 hn2
  go_upto_region 5 with (fail)
  go_cut [27] (fun v wx => v = .bool (!n1 || !n2) ∧ Hid (BI w [] (.slice none 0 0) [(w.heap.size + 1, xCs ⟨#[]⟩ (.slice none 0 0), 28), (w.heap.size, xCs t (.slice A L c), 28)] wx))
  case first =>
    go_wp2_with fail
    refine HI1.out.mono ?_
    rintro e w3 ⟨rfl, hb3⟩
    have G3 := Lib.hid (G2.out.below hb3)
    clear hb3
    cases n1 with
    | false =>
      go_wp2
      go_meet
      exact ⟨rfl, G3⟩
    | true =>
      have HI2 := HNF.out tn w3 ht1 G3.out.bo.bel
      rw [HN2.out] at HI2
      have HI2 := Lib.hid HI2
      go_wp2_with fail
      refine HI2.out.mono ?_
      rintro e w4 ⟨rfl, hb4⟩
      have G4 := Lib.hid (G3.out.below hb4)
      clear hb4
      cases n2 with
      | false =>
        go_wp2
        go_meet
        exact ⟨rfl, G4⟩
      | true =>
        go_wp2
        go_meet
        exact ⟨rfl, G4⟩
  case rest =>
  clear HI1 G2 HNF
  obtain ⟨rfl, G2⟩ := hcut
  obtain ⟨nb, hnb⟩ : ∃ nb, (!n1 || !n2) = nb := ⟨_, rfl⟩
  have HNB := Lib.hid hnb
  rw [hnb]
  clear hnb
  cases nb with
  | true =>
    have HNN := Lib.hid (HNIL.out wc G2.out.bo.bel 5 (by
      rw [HRE.out, if_pos]
      have h := HNB.out
      revert h
      cases n1 <;> cases n2 <;> simp) (by decide))
    obtain ⟨y0, y1, f0, f1⟩ := HCR.out _ _ _ _ G2.out (by simp)
    clear HNIL
    go_wp2
    refine ⟨rfl, .tuple #[.agg (xCs ⟨#[]⟩ (.slice none 0 0)), .int .i64 0, .int .i64 5], (by rw [results_cell_tmp2 rfl]; go_simp; rfl), ?_⟩
    exact HNN.out
  | false =>
  obtain ⟨rfl, rfl⟩ : n1 = true ∧ n2 = true := by
    have h := HNB.out
    revert h
    cases n1 <;> cases n2 <;> simp
  have HRE2 := Lib.hid (HRE.out.trans (if_neg (by simp)))
  have hf0 : 0 < fr.size := name_pos HN1.out
  clear HRE HNB
  have HSC := Lib.hid (fun (W : World) (hb : Below w.heap.size w W) => show Sc2 W F ls (.slice A L c) by
    have h := H.out.below hb
    exact ⟨h.sli, h.par, h.lt⟩)
  have HQ := Lib.hid (fun (s : ByteArray) (W : World) l u P (hW : BI w l u P W) (hP : (w.heap.size, xCs t (.slice A L c), 28) ∈ P) => ro1_c t ls (.slice A L c) s w.heap.size W (HSC.out W hW.bo.bel) HBF.out HRT.out (HCX.out W l u P hW hP).1 (HCX.out W l u P hW hP).2 (hW.bo.plt hP))
  have HQ1 := Lib.hid (HQ.out fr wc _ _ _ G2.out (by simp))
  go_wp2_with fail
  refine HQ1.out.mono ?_
  rintro e w4 ⟨rfl, hb4⟩
  have G4 := Lib.hid (G2.out.below hb4)
  clear hb4 HQ1 G2
  obtain ⟨h1, hh1⟩ : ∃ h1, hasB (ls.map (·.1)) fr = h1 := ⟨_, rfl⟩
  rw [hh1] at HRE2 ⊢
  clear hh1
  cases h1 with
  | false =>
    have HNN := Lib.hid (HNIL.out w4 G4.out.bo.bel 8 (by rw [HRE2.out, if_pos rfl]) (by decide))
    obtain ⟨y0, y1, f0, f1⟩ := HCR.out _ _ _ _ G4.out (by simp)
    clear HNIL
    go_wp2
    refine ⟨rfl, .tuple #[.agg (xCs ⟨#[]⟩ (.slice none 0 0)), .int .i64 0, .int .i64 8], (by rw [results_cell_tmp2 rfl]; go_simp; rfl), ?_⟩
    exact HNN.out
  | true =>
  have HRE3 := Lib.hid (HRE2.out.trans (if_neg (by simp)))
  clear HRE2
  obtain ⟨h2, hh2⟩ : ∃ h2, hasB (ls.map (·.1)) tn = h2 := ⟨_, rfl⟩
  have HQ2 := Lib.hid (HQ.out tn w4 _ _ _ G4.out (by simp))
  rw [hh2] at HRE3 HQ2
  clear hh2 HQ
  go_upto_region 9 with (fail)
  go_cut [43] (fun v wx => v = .bool (!decide (tn = fr) && h2) ∧ Hid (BI w [] (.slice none 0 0) [(w.heap.size + 1, xCs ⟨#[]⟩ (.slice none 0 0), 28), (w.heap.size, xCs t (.slice A L c), 28)] wx))
  case first =>
    by_cases hq : tn = fr
    · have hqa : (tn.toList == fr.toList) = true := (beqS tn fr).trans (decide_eq_true hq)
      have HD := Lib.hid (show (!decide (tn = fr) && h2) = false by rw [decide_eq_true hq]; rfl)
      clear hq
      go_wp2
      go_meet
      exact ⟨by rw [HD.out], G4⟩
    · have hqa : (tn.toList == fr.toList) = false := (beqS tn fr).trans (decide_eq_false hq)
      have HD := Lib.hid (show (!decide (tn = fr) && h2) = h2 by rw [decide_eq_false hq]; rfl)
      clear hq
      go_wp2_with fail
      refine HQ2.out.mono ?_
      rintro e w5 ⟨rfl, hb5⟩
      have G5 := Lib.hid (G4.out.below hb5)
      clear hb5
      go_wp2
      go_meet
      exact ⟨by rw [HD.out], G5⟩
  case rest =>
  clear G4 HQ2 eg
  obtain ⟨rfl, G5⟩ := hcut
  obtain ⟨tw, htw⟩ : ∃ tw, (!decide (tn = fr) && h2) = tw := ⟨_, rfl⟩
  have HTW := Lib.hid htw
  rw [htw]
  clear htw
  cases tw with
  | true =>
    have HNN := Lib.hid (HNIL.out wc G5.out.bo.bel 6 (by
      rw [HRE3.out, if_pos]
      have h := HTW.out
      simp only [Bool.and_eq_true, Bool.not_eq_true', decide_eq_false_iff_not] at h
      exact h) (by decide))
    obtain ⟨y0, y1, f0, f1⟩ := HCR.out _ _ _ _ G5.out (by simp)
    clear HNIL
    go_wp2
    refine ⟨rfl, .tuple #[.agg (xCs ⟨#[]⟩ (.slice none 0 0)), .int .i64 0, .int .i64 6], (by rw [results_cell_tmp2 rfl]; go_simp; rfl), ?_⟩
    exact HNN.out
  | false =>
  have HRE4 := Lib.hid (HRE3.out.trans (if_neg (fun h => by
    have h2 := HTW.out
    rw [decide_eq_false h.1, h.2] at h2
    cases h2)))
  clear HRE3 HTW
  obtain ⟨d0, d1⟩ := HCX.out _ _ _ _ G5.out (by simp)
  have hG7 := G5.out.new (xCs t (.slice none 0 0)) 28
  have hX6 : w.heap.size + 1 < wc.heap.size := G5.out.bo.plt (p := (w.heap.size + 1, xCs ⟨#[]⟩ (.slice none 0 0), 28)) (by simp)
  go_upto_region 12 with (fail)
  generalize hW : wc.alloc (.cells #[.string t, .slice none 0 0] 28) = w7
  have G7 := Lib.hid (show BI w [] (.slice none 0 0) [(wc.heap.size, xCs t (.slice none 0 0), 28), (w.heap.size + 1, xCs ⟨#[]⟩ (.slice none 0 0), 28), (w.heap.size, xCs t (.slice A L c), 28)] w7 by rw [← hW]; exact hG7)
  clear hW hG7 G5 d0 d1
  generalize wc.heap.size = X at *
  obtain ⟨d0, d1⟩ := HCX.out _ _ _ _ G7.out (by simp)
  have HCV := Lib.hid (fun (W : World) l v u P (hW : BI w l v P W) (hP : (X, xCs t u, 28) ∈ P) => show W.cell? ⟨X, 0, none⟩ = some (.string t) ∧ W.cell? ⟨X, 1, none⟩ = some u ∧ W.frozen? ⟨X, 1, none⟩ = false by
    obtain ⟨gx, gf⟩ := hW.cell hP
    exact ⟨gx 0, gx 1, gf 1⟩)
  have HLm := Lib.hid (show (ls.map (·.1)).length = L by rw [List.length_map]; exact HL.out)
  obtain ⟨xs, hxs⟩ : ∃ xs, ls.map (·.1) = xs := ⟨_, rfl⟩
  have HXS := Lib.hid hxs
  have HRE5 := Lib.hid (show renE ⟨t, ls.map (·.1)⟩ fr tn = (if lrgL fr tn (seenP xs xs.length) = true then 2 else if frmL fr tn (seenP xs xs.length) = true then 3 else 0) by rw [← hxs]; exact HRE4.out)
  rw [hxs] at HBB HLm
  clear hxs HRE4
  have HSN := Lib.hid (fun k => seenP_len xs (fun x hx => (HBB.out x hx).1) k)
  go_wp2
  go_loopw [12, 13, 14, 59] (fun s12 s13 s14 i wr => ∃ (k : Nat) (lk : List (Scene × Value)) (vk : Value), k ≤ L ∧ i = .int .i64 k ∧ s12 = .int .i64 (manyL fr tn (seenP xs k)) ∧ s13 = .bool (lrgL fr tn (seenP xs k)) ∧ s14 = .bool (frmL fr tn (seenP xs k)) ∧ Hid (lk.map (·.1) = (xs.take k).map (renX fr tn)) ∧ Hid (BI w lk vk [(X, xCs t vk, 28), (w.heap.size + 1, xCs ⟨#[]⟩ (.slice none 0 0), 28), (w.heap.size, xCs t (.slice A L c), 28)] wr)) (fun _ _ _ i _ => L - (intOf i).toNat)
  case atStart => exact ⟨0, [], .slice none 0 0, Nat.zero_le _, rfl, rfl, rfl, rfl, rfl, G7⟩
  case round =>
    clear G7 d0 d1
    obtain ⟨k, lk, vk, hk, rfl, rfl, rfl, rfl, HK, HG⟩ := hrel
    have hlk : lk.length ≤ k := by have h1 := congrArg List.length HK.out; rw [List.length_map, List.length_map, List.length_take, HLm.out] at h1; omega
    obtain ⟨A7, c7, hv7, _, _⟩ := (HG.out.bo.own.sliF (enc := fun x : Scene × Value => x.1.cells x.2) (hn := fun _ => rfl) (F := fun _ => True) (fun _ _ => trivial)).form
    obtain ⟨m, hm⟩ : ∃ m, lk.length = m := ⟨_, rfl⟩
    have HLK := Lib.hid hm
    rw [hm] at hv7 hlk
    subst hv7
    clear hm
    by_cases hlt : k < L
    · have hk2 : k < ls.length := by rw [HL.out]; exact hlt
      have hS := HSC.out wr HG.out.bo.bel
      obtain ⟨d0, d1⟩ := HCX.out _ _ _ _ HG.out (by simp)
      obtain ⟨b, off, rfl, hfb, a0, a1, a2, a3, a4⟩ := scAt hS.sli k hk2
      have hltb : b < wr.heap.size := hS.lt b hfb
      have hmem := List.getElem_mem hk2
      have hpk : Sli paraR wr F (ls[k]'hk2).1.paras (ls[k]'hk2).2 := hS.par _ hmem
      obtain ⟨A4, cc4, h4, _, _⟩ := hpk.form
      have hkx : k < xs.length := by rw [HLm.out]; exact hlt
      have hgm : xs[k]'hkx = (ls[k]'hk2).1 := by
        have h1 : xs[k]? = some (ls[k]'hk2).1 := by rw [← HXS.out, List.getElem?_map, List.getElem?_eq_getElem hk2]; rfl
        rw [List.getElem?_eq_getElem hkx] at h1
        injection h1
      have hbd := HBB.out _ (List.getElem_mem hkx)
      have hse := seenP_next hkx
      have HTK := Lib.hid (show (xs.take (k + 1)).map (renX fr tn) = (xs.take k).map (renX fr tn) ++ [renX fr tn (xs[k]'hkx)] by rw [List.take_succ_eq_append_getElem hkx, List.map_append]; rfl)
      rw [hgm] at HTK hbd hse
      rw [h4] at a4 hpk
      clear h4 hmem hgm
      generalize (ls[k]'hk2).1 = x at *
      have HSE := Lib.hid hse
      have HBD := Lib.hid hbd.2
      have hpl := hbd.1
      have HS0 := Lib.hid (seenQ_zero xs k x.paras)
      have HSQ := Lib.hid (fun j (hj : j < x.paras.length) => seenQ_next (xs := xs) (k := k) hj)
      have HSNk := Lib.hid (HSN.out k)
      obtain ⟨M, hM⟩ : ∃ M, x.paras.length = M := ⟨_, rfl⟩
      have HMP := Lib.hid hM
      rw [hM] at a4 hpk HSE hpl
      have GY := (BM.start (n := 2) (enc := Para.cells) (hn := fun _ => rfl) (e := 78) wr).new #[.string x.no, .int .i64 x.place, .string x.set, .int .i64 x.time, .slice A4 M cc4] 71
      have hkb : k * 100000 ≤ 1000 * 100000 := Nat.mul_le_mul (by omega) (Nat.le_refl _)
      have HPK := Lib.hid hpk
      have HSL := Lib.hid hS.lt
      clear hk2 hkx hse hbd hM hS hpk
      go_upto_region 15 with (fail)
      have hpk5 := HPK.out.alloc (.cells #[.string x.no, .int .i64 x.place, .string x.set, .int .i64 x.time, .slice A4 M cc4] 71) HSL.out
      obtain ⟨Y, hY⟩ : ∃ Y, wr.heap.size = Y := ⟨_, rfl⟩
      have HYY := Lib.hid hY
      have hGY : PaG wr [] (.slice none 0 0) [(Y, cellsP #[.string x.no, .int .i64 x.place, .string x.set, .int .i64 x.time, .slice A4 M cc4] 71)] (wr.alloc (.cells #[.string x.no, .int .i64 x.place, .string x.set, .int .i64 x.time, .slice A4 M cc4] 71)) := by rw [← hY]; exact GY
      clear GY a0 a1 a2 a3 a4 hltb
      go_simp
      generalize hW : wr.alloc (.cells #[.string x.no, .int .i64 x.place, .string x.set, .int .i64 x.time, .slice A4 M cc4] 71) = w5 at *
      obtain ⟨gx, gf⟩ := hGY.cell (b := Y) (cs := #[.string x.no, .int .i64 x.place, .string x.set, .int .i64 x.time, .slice A4 M cc4]) (T := 71) (by simp)
      have c4 : w5.cell? ⟨Y, 4, none⟩ = some (.slice A4 M cc4) := gx 4
      have HCL := Lib.hid (clonePara_c x.paras (.slice A4 M cc4) w5 hpk5 (by rw [HMP.out]; omega))
      have GY := Lib.hid hGY
      clear hpk5 gx gf hGY hW hY
      go_wp2_with fail
      refine HCL.out.mono ?_
      rintro e w6 ⟨u, rfl, hown6, hb6⟩
      have hG6 := BM.take GY.out hb6 hown6
      obtain ⟨Au, cu, hu, _, _⟩ := (hown6.sliF (enc := Para.cells) (hn := fun _ => rfl) (F := fun _ => True) (fun _ _ => trivial)).form
      rw [HMP.out] at hu
      subst hu
      obtain ⟨gx, gf⟩ := hG6.cell (b := Y) (cs := #[.string x.no, .int .i64 x.place, .string x.set, .int .i64 x.time, .slice A4 M cc4]) (T := 71) (by simp)
      have c4 : w6.cell? ⟨Y, 4, none⟩ = some (.slice A4 M cc4) := gx 4
      have f4 : w6.frozen? ⟨Y, 4, none⟩ = false := gf 4
      have hG7 := hG6.set0 4 (.slice Au M cu) (by simp)
      clear hb6 hown6 hG6 gx gf HCL GY
      go_upto_region 16 with (fail)
      have GI := Lib.hid (show PaG wr (renJ fr tn x.paras 0) (.slice Au M cu) [(Y, cellsP #[.string x.no, .int .i64 x.place, .string x.set, .int .i64 x.time, .slice Au M cu] 71)] (w6.setCell ⟨Y, 4, none⟩ (.slice Au M cu)) from hG7)
      clear c4 f4 hG7
      generalize w6.setCell ⟨Y, 4, none⟩ (.slice Au M cu) = w7 at *
      have HCY := Lib.hid (fun (W : World) l u P (hW : PaG wr l u P W) (hP : (Y, cellsP #[.string x.no, .int .i64 x.place, .string x.set, .int .i64 x.time, .slice Au M cu] 71) ∈ P) => show W.cell? ⟨Y, 0, none⟩ = some (.string x.no) ∧ W.cell? ⟨Y, 1, none⟩ = some (.int .i64 x.place) ∧ W.cell? ⟨Y, 2, none⟩ = some (.string x.set) ∧ W.cell? ⟨Y, 3, none⟩ = some (.int .i64 x.time) ∧ W.cell? ⟨Y, 4, none⟩ = some (.slice Au M cu) by
        obtain ⟨gx, gf⟩ := hW.cell hP
        exact ⟨gx 0, gx 1, gx 2, gx 3, gx 4⟩)
      obtain ⟨s0, s1, s2, s3, s4⟩ := HCY.out _ _ _ _ GI.out (List.mem_cons_self ..)
      obtain ⟨wo, hwo⟩ : ∃ wo, wo = wr := ⟨wr, rfl⟩
      subst hwo
      go_wp2
      go_loopw [12, 13, 14, 70] (fun s12 s13 s14 i wx => ∃ (j : Nat), j ≤ M ∧ i = .int .i64 j ∧ s12 = .int .i64 (manyL fr tn (seenQ xs k x.paras j)) ∧ s13 = .bool (lrgL fr tn (seenQ xs k x.paras j)) ∧ s14 = .bool (frmL fr tn (seenQ xs k x.paras j)) ∧ Hid (PaG wo (renJ fr tn x.paras j) (.slice Au M cu) [(Y, cellsP #[.string x.no, .int .i64 x.place, .string x.set, .int .i64 x.time, .slice Au M cu] 71)] wx)) (fun _ _ _ i _ => M - (intOf i).toNat)
      case atStart => exact ⟨0, Nat.zero_le _, rfl, by rw [HS0.out], by rw [HS0.out], by rw [HS0.out], GI⟩
      case round =>
        clear GI s0 s1 s2 s3 s4
        obtain ⟨j, hj, rfl, rfl, rfl, rfl, GI⟩ := hrel
        by_cases hlj : j < M
        · have hjx : j < x.paras.length := by rw [HMP.out]; exact hlj
          have hjl : j < (renJ fr tn x.paras j).length := by rw [renJ_len]; exact hjx
          obtain ⟨s0, s1, s2, s3, s4⟩ := HCY.out _ _ _ _ GI.out (List.mem_cons_self ..)
          obtain ⟨gu, cc, hvu, hb1, hb2⟩ := Own.some_ (enc := Para.cells) (hn := fun _ => rfl) GI.out.own (by omega)
          rw [renJ_len, HMP.out] at hvu
          injection hvu with hvu hle hcu
          clear hle
          subst hvu
          subst hcu
          have HPC := Lib.hid (fun (W : World) P (hW : PaG wo (renJ fr tn x.paras j) (.slice (some ⟨gu, 0, none⟩) M cu) P W) => show W.cell? ⟨gu, j * 2, none⟩ = some (.int .i64 (x.paras[j]'hjx).kind) ∧ W.cell? ⟨gu, j * 2 + 1, none⟩ = some (.string (x.paras[j]'hjx).text) ∧ W.frozen? ⟨gu, j * 2, none⟩ = false ∧ W.frozen? ⟨gu, j * 2 + 1, none⟩ = false by
            have hp0 := Own.cellAt (enc := Para.cells) (hn := fun _ => rfl) hW.own j hjl 0 (by decide)
            have hp1 := Own.cellAt (enc := Para.cells) (hn := fun _ => rfl) hW.own j hjl 1 (by decide)
            rw [renJ_get hjx hjl] at hp0 hp1
            exact ⟨hp0.1, hp1.1, hp0.2, hp1.2⟩)
          obtain ⟨p0, p1, _, _⟩ := HPC.out _ _ GI.out
          have htx := HBD.out _ (List.getElem_mem hjx)
          have HJ1 := Lib.hid (renJ_next (fr := fr) (tn := tn) hjx)
          have HQ1 := Lib.hid (HSQ.out j hjx)
          have HJG := Lib.hid (renJ_at (fr := fr) (tn := tn) hjx)
          have hmb := manyL_bd fr tn (seenQ xs k x.paras j)
          have hsb : (seenQ xs k x.paras j).length ≤ 200000000 := by
            have h1 := HSNk.out
            unfold seenQ
            rw [List.length_append, List.length_take]
            omega
          generalize x.paras[j]'hjx = p at *
          have HKD := Lib.hid (renP_kind fr tn p)
          have HPM := Lib.hid (manyL_snoc fr tn (seenQ xs k x.paras j) p)
          have HPL := Lib.hid (lrgL_snoc fr tn (seenQ xs k x.paras j) p)
          have HPF := Lib.hid (frmL_snoc fr tn (seenQ xs k x.paras j) p)
          rw [← HQ1.out] at HPM HPL HPF
          obtain ⟨mz, hmz⟩ : ∃ mz, manyL fr tn (seenQ xs k x.paras j) = mz := ⟨_, rfl⟩
          obtain ⟨lb, hlb⟩ : ∃ lb, lrgL fr tn (seenQ xs k x.paras j) = lb := ⟨_, rfl⟩
          obtain ⟨fb, hfb⟩ : ∃ fb, frmL fr tn (seenQ xs k x.paras j) = fb := ⟨_, rfl⟩
          rw [hmz] at HPM hmb ⊢
          rw [hlb] at HPL ⊢
          rw [hfb] at HPF ⊢
          have HMB := Lib.hid hmb
          have HSB := Lib.hid hsb
          have hjI : (j : Int) < (M : Int) := by omega
          clear hmz hlb hfb hjl hjx hmb hsb
          obtain ⟨nt, hnt⟩ : ∃ nt, (renP fr tn p).text = nt := ⟨_, rfl⟩
          have HNT := Lib.hid hnt
          rw [hnt] at HJ1
          clear hnt
          have GZ := Lib.hid (GI.out.new #[.int .i64 p.kind, .string p.text] 78)
          go_upto_region 19 with (fail)
          generalize hW : wr.alloc (.cells #[.int .i64 p.kind, .string p.text] 78) = w10 at *
          have hZ10 := (GZ.out.plt (b := wr.heap.size) (List.mem_cons_self ..)).2
          have hYZ := (GI.out.plt (b := Y) (List.mem_cons_self ..)).2
          generalize wr.heap.size = Z at *
          have HCZ := Lib.hid (fun (W : World) l u P (hW : PaG wo l u P W) (hm : (Z, cellsP #[.int .i64 p.kind, .string p.text] 78) ∈ P) => show W.cell? ⟨Z, 0, none⟩ = some (.int .i64 p.kind) ∧ W.cell? ⟨Z, 1, none⟩ = some (.string p.text) from ⟨(hW.cell hm).1 0, (hW.cell hm).1 1⟩)
          clear hW p0 p1 GI
          obtain ⟨z0, z1⟩ := HCZ.out _ _ _ _ GZ.out (List.mem_cons_self ..)
          have GQ := Lib.hid (GZ.out.new #[.int .i64 p.kind, .string p.text] 78)
          go_upto_region 20 with (fail)
          generalize hW : w10.alloc (.cells #[.int .i64 p.kind, .string p.text] 78) = w11 at *
          generalize w10.heap.size = Z2 at *
          have HCQ := Lib.hid (fun (W : World) l u P (tx : ByteArray) (hW : PaG wo l u P W) (hm : (Z2, cellsP #[.int .i64 p.kind, .string tx] 78) ∈ P) => show W.cell? ⟨Z2, 0, none⟩ = some (.int .i64 p.kind) ∧ W.cell? ⟨Z2, 1, none⟩ = some (.string tx) ∧ W.frozen? ⟨Z2, 1, none⟩ = false from ⟨(hW.cell hm).1 0, (hW.cell hm).1 1, (hW.cell hm).2 1⟩)
          have HNE := Lib.hid (show ∀ q ∈ [(Z, cellsP #[.int .i64 p.kind, .string p.text] 78), (Y, cellsP #[.string x.no, .int .i64 x.place, .string x.set, .int .i64 x.time, .slice (some ⟨gu, 0, none⟩) M cu] 71)], q.1 ≠ Z2 from fun q hq => by
            simp only [List.mem_cons, List.not_mem_nil, or_false] at hq
            rcases hq with rfl | rfl <;> (dsimp only; omega))
          clear hW z0 z1 GZ
          obtain ⟨z0, z1⟩ := HCZ.out _ _ _ _ GQ.out (by simp)
          obtain ⟨q0, q1, qf⟩ := HCQ.out _ _ _ _ p.text GQ.out (List.mem_cons_self ..)
          obtain ⟨kb, hkb2⟩ : ∃ kb, (p.kind != 2) = kb := ⟨_, rfl⟩
          go_upto_if 78 with (fail)
          have HKB := Lib.hid hkb2
          clear hkb2
          go_cut [] (fun wx => Hid (PaG wo (renJ fr tn x.paras j) (.slice (some ⟨gu, 0, none⟩) M cu) [(Z2, cellsP #[.int .i64 p.kind, .string nt] 78), (Z, cellsP #[.int .i64 p.kind, .string p.text] 78), (Y, cellsP #[.string x.no, .int .i64 x.place, .string x.set, .int .i64 x.time, .slice (some ⟨gu, 0, none⟩) M cu] 71)] wx))
          case first =>
            clear HPM HPL HPF
            cases kb with
            | true =>
              have q2 : ¬ p.kind = 2 := bne_iff_ne.1 HKB.out
              have HR := Lib.hid (show repS p.text fr tn = nt by rw [← HNT.out]; unfold renP; rw [if_neg q2])
              have HSW := swapped_c p.text fr tn w11 (by omega) hf0 hf1 ht1
              rw [HR.out] at HSW
              have HSW := Lib.hid HSW
              have G12 := Lib.hid (GQ.out.set0 1 (.string nt) HNE.out)
              clear q2
              go_wp2_with fail
              refine HSW.out.mono ?_
              rintro e w12 ⟨rfl, rfl⟩
              clear HSW
              go_wp2
              go_meet
              exact G12
            | false =>
              have q2 : p.kind = 2 := by
                have h := HKB.out
                simpa using h
              by_cases q3 : p.text = fr
              · have e3 : (p.text.toList == fr.toList) = true := (beqS _ _).trans (decide_eq_true q3)
                have HR := Lib.hid (show nt = tn by rw [← HNT.out]; unfold renP; rw [if_pos q2, if_pos q3])
                have G12 := Lib.hid (GQ.out.set0 1 (.string tn) HNE.out)
                clear q2 q3
                go_wp2
                go_meet
                rw [HR.out]
                exact G12
              · have e3 : (p.text.toList == fr.toList) = false := (beqS _ _).trans (decide_eq_false q3)
                have HR := Lib.hid (show nt = p.text by rw [← HNT.out]; unfold renP; rw [if_pos q2, if_neg q3])
                clear q2 q3
                go_wp2
                go_meet
                rw [HR.out]
                exact GQ
          case rest =>
          clear GQ z0 z1 q0 q1 qf s0 s1 s2 s3 s4
          have G12 := hcut
          clear hcut
          obtain ⟨z0, z1⟩ := HCZ.out _ _ _ _ G12.out (by simp)
          obtain ⟨q0, q1, _⟩ := HCQ.out _ _ _ _ nt G12.out (List.mem_cons_self ..)
          go_upto_region 24 with (fail)
          go_cut [93] (fun v wx => v = .bool (!decide (nt = p.text)) ∧ wx = wc)
          case first =>
            clear HPM HPL HPF
            by_cases q : nt = p.text
            · have HR := Lib.hid (show (!decide (nt = p.text)) = false by rw [decide_eq_true q]; rfl)
              rw [q] at q1
              clear q
              go_wp2
              go_meet
              exact ⟨by rw [HR.out], rfl⟩
            · have HR := Lib.hid (show (!decide (nt = p.text)) = true by rw [decide_eq_false q]; rfl)
              have k2 := beq_ne q
              have k3 : ¬ nt.toList = p.text.toList := by simpa using k2
              clear q
              go_wp2
              go_meet
              exact ⟨by rw [HR.out], rfl⟩
          case rest =>
          obtain ⟨rfl, rfl⟩ := hcut
          obtain ⟨eb, heb⟩ : ∃ eb, (!decide (nt = p.text)) = eb := ⟨_, rfl⟩
          have HEB := Lib.hid heb
          rw [heb]
          clear heb
          have hmb := HMB.out
          have hsb := HSB.out
          have ew : IntKind.i64.wrap (mz + 1) = mz + 1 := IntWalk.i64_in _ (by omega)
          clear hmb hsb
          go_upto_if 93 with (fail)
          go_cut [12] (fun v wx => v = .int .i64 (manyL fr tn (seenQ xs k x.paras (j + 1))) ∧ wx = wc)
          case first =>
            have HR := Lib.hid (show manyL fr tn (seenQ xs k x.paras (j + 1)) = mz + (if eb = true then 1 else 0) by
              rw [HPM.out]
              unfold difP
              rw [HNT.out, HEB.out])
            cases eb with
            | true =>
              go_wp2
              go_meet
              exact ⟨by rw [HR.out]; simp, rfl⟩
            | false =>
              go_wp2
              go_meet
              exact ⟨by rw [HR.out]; simp, rfl⟩
          case rest =>
          obtain ⟨rfl, rfl⟩ := hcut
          clear ew HPM z0 z1
          have HL2 := Lib.hid (show lrgL fr tn (seenQ xs k x.paras (j + 1)) = (lb || (decide (2000 < nt.size) || (decide (p.kind = 3) && decide (200 < nt.size)))) by
            rw [HPL.out]
            unfold lrgP
            rw [HNT.out, HKD.out])
          have HF2 := Lib.hid (show frmL fr tn (seenQ xs k x.paras (j + 1)) = (fb || (decide (p.kind = 5) && !turnB nt)) by
            rw [HPF.out]
            unfold frmP
            rw [HNT.out, HKD.out])
          have hnz : nt.size ≤ 20020000 := by
            rw [← HNT.out]
            unfold renP
            split
            · split
              · dsimp only; omega
              · omega
            · dsimp only
              have h1 := repS_sz p.text fr tn
              have h2 : p.text.size * (1 + tn.size) ≤ 20000 * 1001 := Nat.mul_le_mul (by omega) (by omega)
              omega
          clear HPL HPF
          go_upto_region 26 with (fail)
          go_cut [13] (fun v wx => v = .bool (lrgL fr tn (seenQ xs k x.paras (j + 1))) ∧ wx = wc)
          case first =>
            cases lb with
            | true =>
              have HR := Lib.hid (show lrgL fr tn (seenQ xs k x.paras (j + 1)) = true by rw [HL2.out]; rfl)
              go_wp2
              go_meet
              exact ⟨by rw [HR.out], rfl⟩
            | false =>
              by_cases a1 : 2000 < nt.size
              · have HR := Lib.hid (show lrgL fr tn (seenQ xs k x.paras (j + 1)) = true by rw [HL2.out, decide_eq_true a1]; rfl)
                have a1I : (2000 : Int) < (nt.size : Int) := by omega
                go_wp2
                go_meet
                exact ⟨by rw [HR.out], rfl⟩
              · have a1I : ¬ (2000 : Int) < (nt.size : Int) := by omega
                by_cases a2 : p.kind = 3
                · have e2 : (p.kind == 3) = true := beq_iff_eq.2 a2
                  by_cases a3 : 200 < nt.size
                  · have HR := Lib.hid (show lrgL fr tn (seenQ xs k x.paras (j + 1)) = true by rw [HL2.out, decide_eq_false a1, decide_eq_true a2, decide_eq_true a3]; rfl)
                    have a3I : (200 : Int) < (nt.size : Int) := by omega
                    clear a2
                    go_wp2
                    go_meet
                    exact ⟨by rw [HR.out], rfl⟩
                  · have HR := Lib.hid (show lrgL fr tn (seenQ xs k x.paras (j + 1)) = false by rw [HL2.out, decide_eq_false a1, decide_eq_true a2, decide_eq_false a3]; rfl)
                    have a3I : ¬ (200 : Int) < (nt.size : Int) := by omega
                    clear a2
                    go_wp2
                    go_meet
                    exact ⟨by rw [HR.out]; try exact congrArg Value.bool (decide_eq_false (by omega)), rfl⟩
                · have e2 : (p.kind == 3) = false := beq_eq_false_iff_ne.2 a2
                  have HR := Lib.hid (show lrgL fr tn (seenQ xs k x.paras (j + 1)) = false by rw [HL2.out, decide_eq_false a1, decide_eq_false a2]; rfl)
                  clear a2
                  go_wp2
                  go_meet
                  exact ⟨by rw [HR.out], rfl⟩
          case rest =>
          obtain ⟨rfl, rfl⟩ := hcut
          have HMA := made_c nt turSS wc (by omega) tur_size tur_ascii
          rw [tur_made] at HMA
          have HMA := Lib.hid HMA
          go_upto_region 27 with (fail)
          go_cut [14] (fun v wx => v = .bool (frmL fr tn (seenQ xs k x.paras (j + 1))) ∧ Hid (PaG wo (renJ fr tn x.paras j) (.slice (some ⟨gu, 0, none⟩) M cu) [(Z2, cellsP #[.int .i64 p.kind, .string nt] 78), (Z, cellsP #[.int .i64 p.kind, .string p.text] 78), (Y, cellsP #[.string x.no, .int .i64 x.place, .string x.set, .int .i64 x.time, .slice (some ⟨gu, 0, none⟩) M cu] 71)] wx))
          case first =>
            cases fb with
            | true =>
              have HR := Lib.hid (show frmL fr tn (seenQ xs k x.paras (j + 1)) = true by rw [HF2.out]; rfl)
              go_wp2
              go_meet
              exact ⟨by rw [HR.out], G12⟩
            | false =>
              by_cases a2 : p.kind = 5
              · have e2 : (p.kind == 5) = true := beq_iff_eq.2 a2
                have HR := Lib.hid (show frmL fr tn (seenQ xs k x.paras (j + 1)) = !turnB nt by rw [HF2.out, decide_eq_true a2]; simp)
                have HTB := Lib.hid (show turnB nt = (allB turnC nt && decide (nt.size ≤ 40)) from rfl)
                generalize allB turnC nt = tb at *
                clear a2
                go_wp2_with fail
                refine HMA.out.mono ?_
                rintro e w13 ⟨rfl, hb13⟩
                have G13 := Lib.hid (G12.out.below hb13)
                obtain ⟨q0', q1', _⟩ := HCQ.out _ _ _ _ nt G13.out (List.mem_cons_self ..)
                clear hb13 HMA
                cases tb with
                | false =>
                  have HR2 := Lib.hid (show frmL fr tn (seenQ xs k x.paras (j + 1)) = true by rw [HR.out, HTB.out]; rfl)
                  go_wp2
                  go_meet
                  exact ⟨by rw [HR2.out], G13⟩
                | true =>
                  by_cases a3 : nt.size ≤ 40
                  · have HR2 := Lib.hid (show frmL fr tn (seenQ xs k x.paras (j + 1)) = false by rw [HR.out, HTB.out, decide_eq_true a3]; rfl)
                    have a3I : ¬ (40 : Int) < (nt.size : Int) := by omega
                    go_wp2
                    go_meet
                    exact ⟨by rw [HR2.out]; try exact congrArg Value.bool (decide_eq_false (by omega)), G13⟩
                  · have HR2 := Lib.hid (show frmL fr tn (seenQ xs k x.paras (j + 1)) = true by rw [HR.out, HTB.out, decide_eq_false a3]; rfl)
                    have a3I : (40 : Int) < (nt.size : Int) := by omega
                    go_wp2
                    go_meet
                    exact ⟨by rw [HR2.out]; try exact congrArg Value.bool (decide_eq_true (by omega)), G13⟩
              · have e2 : (p.kind == 5) = false := beq_eq_false_iff_ne.2 a2
                have HR := Lib.hid (show frmL fr tn (seenQ xs k x.paras (j + 1)) = false by rw [HF2.out, decide_eq_false a2]; rfl)
                clear a2
                go_wp2
                go_meet
                exact ⟨by rw [HR.out], G12⟩
          case rest =>
          clear HL2 HF2 HMA G12 q0 q1
          obtain ⟨rfl, G14⟩ := hcut
          obtain ⟨q0, q1, _⟩ := HCQ.out _ _ _ _ nt G14.out (List.mem_cons_self ..)
          obtain ⟨s0, s1, s2, s3, s4⟩ := HCY.out _ _ _ _ G14.out (by simp)
          obtain ⟨p0, p1, pf0, pf1⟩ := HPC.out _ _ G14.out
          have hjl : j < (renJ fr tn x.paras j).length := by rw [renJ_len, HMP.out]; exact hlj
          have hG15 := BM.modify (enc := Para.cells) (hn := fun _ => rfl) G14.out (fun q => ⟨p.kind, q.text⟩) j 0 (.int .i64 p.kind) (fun _ => rfl) (by decide) hjl
          have hG16 := BM.modify (enc := Para.cells) (hn := fun _ => rfl) hG15 (fun q => ⟨q.kind, nt⟩) j 1 (.string nt) (fun _ => rfl) (by decide) (by rw [List.length_modify]; exact hjl)
          have hmm : ((renJ fr tn x.paras j).modify j (fun q => ⟨p.kind, q.text⟩)).modify j (fun q => ⟨q.kind, nt⟩) = renJ fr tn x.paras (j + 1) := by
            rw [modMod, ← HJ1.out]
            refine modAt hjl ?_
            have h1 := HJG.out
            rw [List.getElem?_eq_getElem hjl] at h1
            injection h1 with h1
            dsimp only
            rw [h1]
          rw [hmm] at hG16
          have G16 := Lib.hid (hG16.less (Q := [(Y, cellsP #[.string x.no, .int .i64 x.place, .string x.set, .int .i64 x.time, .slice (some ⟨gu, 0, none⟩) M cu] 71)]) (by simp))
          clear hG15 hG16 hmm hjl
          go_wp2
          go_roundw
          case rel => exact ⟨j + 1, by omega, intNum, rfl, rfl, rfl, G16⟩
          case measure => simp [intOf]; omega
        · have HPE := Lib.hid (show renJ fr tn x.paras j = x.paras.map (renP fr tn) by rw [← renJ_end, HMP.out, show j = M by omega])
          have HS := Lib.hid (show seenP xs (k + 1) = seenQ xs k x.paras j by rw [HSE.out, show j = M by omega])
          obtain ⟨pl, hpl2⟩ : ∃ pl, x.paras.map (renP fr tn) = pl := ⟨_, rfl⟩
          have HPLn := Lib.hid (show pl.length = M by rw [← hpl2, List.length_map, HMP.out])
          have HRX := Lib.hid (show renX fr tn x = ⟨x.no, x.place, x.set, x.time, pl⟩ by unfold renX; rw [hpl2])
          rw [hpl2] at HPE
          rw [HPE.out] at GI
          obtain ⟨hp1, hp2, hp3, hp4⟩ := GI.out.prv (Y, cellsP #[.string x.no, .int .i64 x.place, .string x.set, .int .i64 x.time, .slice Au M cu] 71) (by simp)
          have hheap : wr.heap[Y]? = some (.cells #[.string x.no, .int .i64 x.place, .string x.set, .int .i64 x.time, .slice Au M cu] 71 (0, 0)) := hp1
          have G15 := Lib.hid (HG.out.blk GI.out.bel (B := Y) (Nat.le_of_eq HYY.out) hheap)
          have HU := Lib.hid (show Sli paraR wr (InF w wr (.slice A7 m c7) ((Y, #[.string x.no, .int .i64 x.place, .string x.set, .int .i64 x.time, .slice Au M cu], 71) :: [(X, xCs t (.slice A7 m c7), 28), (w.heap.size + 1, xCs ⟨#[]⟩ (.slice none 0 0), 28), (w.heap.size, xCs t (.slice (some ⟨b, off, none⟩) L c), 28)])) pl (.slice Au M cu) from
            (GI.out.own.sliF (F := fun q => (Value.slice Au M cu).ownBlock = some q) (enc := Para.cells) (hn := fun _ => rfl) (fun _ h => h)).more fun q hq => by
              have hbl := GI.out.own.block q hq
              have hsz := HG.out.bo.bel.size
              refine ⟨by omega, hbl.2, fun p hp => ?_, fun e => by have := (HG.out.bo.own.block q e).2; omega⟩
              rcases List.mem_cons.1 hp with rfl | hp
              · intro e
                exact hp4 (by rw [hq, e])
              · have := HG.out.bo.plt hp
                intro e
                omega)
          have hXY : X < Y := by have h1 := HG.out.bo.plt (p := (X, xCs t (.slice A7 m c7), 28)) (by simp); dsimp only at h1; rw [HYY.out] at h1; exact h1
          obtain ⟨s0, s1, s2, s3, s4⟩ := HCY.out _ _ _ _ GI.out (List.mem_cons_self ..)
          obtain ⟨_, x1, _⟩ := HCV.out _ _ _ (.slice A7 m c7) _ G15.out (by simp)
          have hz7 := G15.out.bo.size
          have HCV2 := Lib.hid (fun (W : World) l v P (hW : BI w l v P W) (hP : (X, xCs t (.slice A7 m c7), 28) ∈ P) => show W.cell? ⟨X, 1, none⟩ = some (.slice A7 m c7) ∧ W.frozen? ⟨X, 1, none⟩ = false from ⟨(HCV.out W l v (.slice A7 m c7) P hW hP).2.1, (HCV.out W l v (.slice A7 m c7) P hW hP).2.2⟩)
          have HKN := Lib.hid (show (lk ++ [((⟨x.no, x.place, x.set, x.time, pl⟩, .slice Au M cu) : Scene × Value)]).map (·.1) = (xs.take (k + 1)).map (renX fr tn) by rw [HTK.out, HRX.out, List.map_append, HK.out]; rfl)
          clear hp1 hp2 hp3 hp4 hheap hpl2 GI HG HK HTK HCY HPE HSQ
          generalize hva : Value.slice A7 m c7 = va at *
          go_wp2_with (at_builtin; (refine wpList_pushB (R := svR) rfl _ _ _ rfl w.heap.size w.heap.size 71 i0 _ 72 Tryz.underlying26 hi0 hz0 hz1 hz2 rfl (by decide) _ va lk rfl (G15.out.bo.own.alloc _) ((⟨x.no, x.place, x.set, x.time, pl⟩, .slice Au M cu) : Scene × Value) _ rfl (oneC rfl) wr.heap.size _ _ (heap_alloc_new wr _) rfl (by rw [HLK.out]; simp [maxLen]; omega) (by rw [HLK.out]; omega) (by simp; omega) ?_); rw [HLK.out]; intro g cap w10 hown10 hg10 hat10 hlt10; have G8 := BI.more (G15.out.alloc _) hown10 hg10 rfl hat10 (((HU.out.alloc _ (fun q hq => hq.2.1))).more fun q hq => ⟨hq.1, by have := hq.2.1; simp; omega, hq.2.2⟩); obtain ⟨x8, f8⟩ := HCV2.out _ _ _ _ G8 (by simp))
          go_roundw
          case rel => exact ⟨k + 1, lk ++ [(⟨x.no, x.place, x.set, x.time, pl⟩, .slice Au M cu)], _, by omega, intNum, by rw [HS.out], by rw [HS.out], by rw [HS.out], HKN, Lib.hid ((G8.less (Q := [(X, xCs t va, 28), (w.heap.size + 1, xCs ⟨#[]⟩ (.slice none 0 0), 28), (w.heap.size, xCs t (.slice (some ⟨b, off, none⟩) L c), 28)]) (fun p hp => List.mem_cons_of_mem _ hp)).set (i := 1) _ (by
            intro p hp
            simp only [List.mem_cons, List.not_mem_nil, or_false] at hp
            rcases hp with rfl | rfl <;> (dsimp only; omega)))⟩
          case measure => simp [intOf]; omega
    · have hkL : k = xs.length := by rw [HLm.out]; omega
      have HKE := Lib.hid (show lk.map (·.1) = xs.map (renX fr tn) by rw [HK.out, hkL, List.take_length])
      obtain ⟨x0, x1, _⟩ := HCV.out _ _ _ (.slice A7 m c7) _ HG.out (by simp)
      obtain ⟨y0, y1, f0, f1⟩ := HCR.out _ _ _ _ HG.out (by simp)
      have HRE6 := Lib.hid (show renE ⟨t, ls.map (·.1)⟩ fr tn = (if lrgL fr tn (seenP xs k) = true then 2 else if frmL fr tn (seenP xs k) = true then 3 else 0) by rw [HRE5.out, hkL])
      have HMY := Lib.hid (show manyL fr tn (seenP xs xs.length) = manyL fr tn (seenP xs k) by rw [hkL])
      obtain ⟨lb, hlb⟩ : ∃ lb, lrgL fr tn (seenP xs k) = lb := ⟨_, rfl⟩
      obtain ⟨fb, hfb⟩ : ∃ fb, frmL fr tn (seenP xs k) = fb := ⟨_, rfl⟩
      rw [hlb, hfb] at HRE6
      rw [hlb, hfb]
      clear hlb hfb hkL HK
      cases lb with
      | true =>
        have HNN := Lib.hid (HNIL.out wr HG.out.bo.bel 2 (by rw [HRE6.out, if_pos rfl]) (by decide))
        clear HNIL
        go_wp2
        refine ⟨rfl, .tuple #[.agg (xCs ⟨#[]⟩ (.slice none 0 0)), .int .i64 0, .int .i64 2], (by rw [results_cell_tmp2 rfl]; go_simp; rfl), ?_⟩
        exact HNN.out
      | false =>
      cases fb with
      | true =>
        have HNN := Lib.hid (HNIL.out wr HG.out.bo.bel 3 (by rw [HRE6.out, if_neg (by decide), if_pos rfl]) (by decide))
        clear HNIL
        go_wp2
        refine ⟨rfl, .tuple #[.agg (xCs ⟨#[]⟩ (.slice none 0 0)), .int .i64 0, .int .i64 3], (by rw [results_cell_tmp2 rfl]; go_simp; rfl), ?_⟩
        exact HNN.out
      | false =>
        have HR0 := Lib.hid (show renE ⟨t, ls.map (·.1)⟩ fr tn = 0 by rw [HRE6.out, if_neg (by decide), if_neg (by decide)])
        have HF := Lib.hid (((HG.out.less (Q := [(w.heap.size + 1, xCs ⟨#[]⟩ (.slice none 0 0), 28)]) (by simp)).set (i := 0) (.string t) (by simp)).set (i := 1) (.slice A7 m c7) (by simp))
        clear HNIL HG HRE6
        generalize manyL fr tn (seenP xs k) = mz at *
        go_wp2
        refine ⟨rfl, .tuple #[.agg (xCs t (.slice A7 m c7)), .int .i64 mz, .int .i64 0], (by rw [results_cell_tmp2 rfl]; go_simp; rfl), ?_⟩
        exact ⟨t, lk, _, mz, 0, rfl, HF.out.bo.bel, BI.sc2 HF.out, HR0.out, fun _ => ⟨rfl, by dsimp only; rw [HXS.out]; exact HKE.out, by dsimp only; rw [HXS.out]; exact HMY.out.symm⟩, fun h => absurd rfl h⟩
end Go.Proofs.YtkhegeobdcemkaaGreatDoor

