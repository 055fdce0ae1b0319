/- Texts packed: RmW. -/
import Derived.Test.YtkhegeobdcemkaaGreatDoorSe21
import Derived.Test.YtkhegeobdcemkaaGreatDoorSe37
import Derived.Test.YtkhegeobdcemkaaGreatDoorSe34
import Derived.Test.YtkhegeobdcemkaaGreatDoorSe33
import Derived.Test.YtkhegeobdcemkaaGreatDoorSe09
import Derived.Deep.CutBlock
/- script.Rename, walked. -/
namespace Go.Proofs.YtkhegeobdcemkaaGreatDoor
set_option linter.unusedVariables false
open Go.RowKit Go.Sort

/-- What a renaming gives. -/
def RnP (x : Script) (fr tn : ByteArray) (w : World) (e : Ending) (w' : World) : Prop := ∃ (t : ByteArray) (l : List (Scene × Value)) (v : Value) (many E : Int), e = .returned (.tuple #[.agg (xCs t v), .int .i64 many, .int .i64 E]) ∧ Below w.heap.size w w' ∧ Sc2 w' (fun q => q < w'.heap.size) l v ∧ renE x fr tn = E ∧ (E = 0 → t = x.title ∧ l.map (·.1) = x.scenes.map (renX fr tn) ∧ many = manyL fr tn (seenP x.scenes x.scenes.length)) ∧ (¬ E = 0 → t = ⟨#[]⟩ ∧ l = [] ∧ many = 0)
theorem name_pos {nm : ByteArray} (h : nameB nm = true) : 0 < nm.size := by
  unfold nameB proB at h
  simp only [Bool.and_eq_true, decide_eq_true_eq] at h
  exact h.1.1.1.1
theorem Sc2.nil_ (w : World) : Sc2 w (fun q => q < w.heap.size) [] (.slice none 0 0) := ⟨Sli.nil_, fun y hy => (by cases hy), fun q hq => hq⟩
theorem RnP.err {x : Script} {fr tn : ByteArray} {w w' : World} {E : Int} (hb : Below w.heap.size w w') (hE : renE x fr tn = E) (h0 : ¬ E = 0) : RnP x fr tn w (.returned (.tuple #[.agg (xCs ⟨#[]⟩ (.slice none 0 0)), .int .i64 0, .int .i64 E])) w' := ⟨⟨#[]⟩, [], .slice none 0 0, 0, E, rfl, hb, Sc2.nil_ _, hE, fun e => absurd e h0, fun _ => ⟨rfl, rfl, rfl⟩⟩
theorem RnN.sc2 {w wx : World} {l : List (Scene × Value)} {v : Value} {P : List (Nat × Array Value × TypeId)} (h : RnN w l v P wx) : Sc2 wx (fun q => q < wx.heap.size) l v :=
  ⟨h.bo.own.sliF (enc := fun x : Scene × Value => x.1.cells x.2) (hn := fun _ => rfl) (fun g e => (h.bo.own.block g e).2), fun y hy => by
    obtain ⟨i, hi⟩ := List.mem_iff_getElem?.1 hy
    have hr : Own paraR wx w.heap.size w.heap.size 78 y.1.paras y.2 := (h.row i y hi).1
    exact hr.sliF (enc := Para.cells) (hn := fun _ => rfl) (fun g e => (hr.block g e).2), fun q hq => hq⟩
set_option maxRecDepth 100000 in
set_option maxHeartbeats 8000000 in
theorem Rename_c {F : Nat → Prop} (t : ByteArray) (ls : List (Scene × Value)) (v : Value) (fr tn : ByteArray) (w : World) (h : ScL w F t ls v) (hB : FdB (ls.map (·.1))) (hm : MaxLaid w) (hf1 : fr.size ≤ 1000) (ht1 : tn.size ≤ 1000) :
    Calls Tryz.prog 20 #[.agg #[.string t, v], .string fr, .string tn] w (RnP ⟨t, ls.map (·.1)⟩ fr tn w) := by
  obtain ⟨A, c, rfl, hlc, hcm⟩ := h.sli.form
  obtain ⟨L, hL⟩ : ∃ L, ls.length = L := ⟨_, rfl⟩
  have HL := Lib.hid hL
  have hl : L ≤ 1000 := by have := hB.1; rw [List.length_map] at this; omega
  have HBB := Lib.hid hB.2
  rw [hL] at h hlc ⊢
  have H := Lib.hid h
  have HM := Lib.hid hm
  clear h hm hL hB
  have eg : ∀ args W, (callFunc 53 args).run Tryz.prog W = .ok (.enter 53 args) W := fun _ _ => by kernel_rfl
  go_enter Tryz.func20, Tryz.ntmps20
  go_upto_region 1 with (fail)
  have hG : RnN w [] (.slice none 0 0) [(w.heap.size + 1, xCs ⟨#[]⟩ (.slice none 0 0), 28), (w.heap.size, xCs t (.slice A L c), 28)] ((w.alloc (.cells (xCs t (.slice A L c)) 28)).alloc (.cells (xCs ⟨#[]⟩ (.slice none 0 0)) 28)) := by
    have h := ((NS.start w : RnN w [] (.slice none 0 0) [] w).new (xCs t (.slice A L c)) 28).new (xCs ⟨#[]⟩ (.slice none 0 0)) 28
    rw [show (w.alloc (.cells (xCs t (.slice A L c)) 28)).heap.size = w.heap.size + 1 by simp] at h
    exact h
  generalize hW : (w.alloc (.cells #[.string t, .slice A L c] 28)).alloc (.cells #[.string ⟨#[]⟩, .slice none 0 0] 28) = w1
  have G1 := Lib.hid (show RnN w [] (.slice none 0 0) [(w.heap.size + 1, xCs ⟨#[]⟩ (.slice none 0 0), 28), (w.heap.size, xCs t (.slice A L c), 28)] w1 by rw [← hW]; exact hG)
  clear hG hW
  have HCX := Lib.hid (fun (W : World) l v P (hW : RnN w l v P W) (hP : (w.heap.size, xCs t (.slice A L c), 28) ∈ P) => show W.cell? ⟨w.heap.size, 0, none⟩ = some (.string t) ∧ W.cell? ⟨w.heap.size, 1, none⟩ = some (.slice A L c) by
    obtain ⟨gx, _⟩ := NS.cell hW hP
    exact ⟨gx 0, gx 1⟩)
  have HCR := Lib.hid (fun (W : World) l v P (hW : RnN w l v P W) (hP : (w.heap.size + 1, xCs ⟨#[]⟩ (.slice none 0 0), 28) ∈ P) => show W.cell? ⟨w.heap.size + 1, 0, none⟩ = some (.string ⟨#[]⟩) ∧ W.cell? ⟨w.heap.size + 1, 1, none⟩ = some (.slice none 0 0) ∧ W.frozen? ⟨w.heap.size + 1, 0, none⟩ = false ∧ W.frozen? ⟨w.heap.size + 1, 1, none⟩ = false by
    obtain ⟨gx, gf⟩ := NS.cell hW hP
    exact ⟨gx 0, gx 1, gf 0, gf 1⟩)
  obtain ⟨d0, d1⟩ := HCX.out _ _ _ _ G1.out (by simp)
  have HCK := Lib.hid (Check_c t ls (.slice A L c) w1 (by have h := H.out.below G1.out.bo.bel; rw [← HL.out] at h ⊢; exact h) (max_below HM.out G1.out.bo.bel (Nat.le_refl _)))
  go_wp2_with fail
  refine HCK.out.mono ?_
  rintro e w2 ⟨rfl, hb2⟩
  have G2 := Lib.hid (NS.below G1.out hb2)
  obtain ⟨E, hE⟩ : ∃ E, chkE ⟨t, ls.map (·.1)⟩ = E := ⟨_, rfl⟩
  have HEG := Lib.hid hE
  rw [hE]
  clear hE hb2 G1 d0 d1 HCK
  have HNIL := Lib.hid (fun (W : World) (hb : Below w.heap.size w W) (E' : Int) (hE : renE ⟨t, ls.map (·.1)⟩ fr tn = E') (h0 : ¬ E' = 0) =>
    show RnP ⟨t, ls.map (·.1)⟩ fr tn w (.returned (.tuple #[.agg (xCs ⟨#[]⟩ (.slice none 0 0)), .int .i64 0, .int .i64 E'])) ((W.setCell ⟨w.heap.size + 1, 0, none⟩ (.string ⟨#[]⟩)).setCell ⟨w.heap.size + 1, 1, none⟩ (.slice none 0 0)) from
      RnP.err (belSet (belSet hb (by dsimp only; omega) _) (by dsimp only; omega) _) hE h0)
  by_cases hE0 : E = 0
  case neg =>
    have q1 : (E != 0) = true := bne_iff_ne.2 hE0
    have HNN := Lib.hid (HNIL.out w2 G2.out.bo.bel E (by unfold renE; rw [HEG.out, if_pos hE0]) hE0)
    obtain ⟨y0, y1, f0, f1⟩ := HCR.out _ _ _ _ G2.out (by simp)
    clear HNIL hE0
    go_wp2
    refine ⟨rfl, .tuple #[.agg (xCs ⟨#[]⟩ (.slice none 0 0)), .int .i64 0, .int .i64 E], (by rw [results_cell_tmp2 rfl]; go_simp; rfl), ?_⟩
    exact HNN.out
  subst hE0
  have HRE := Lib.hid (show renE ⟨t, ls.map (·.1)⟩ fr tn = (if nameB fr = false ∨ nameB tn = false then 5 else if hasB (ls.map (·.1)) fr = false then 8 else if ¬ tn = fr ∧ hasB (ls.map (·.1)) tn = true then 6 else if lrgL fr tn (seenP (ls.map (·.1)) (ls.map (·.1)).length) = true then 2 else if frmL fr tn (seenP (ls.map (·.1)) (ls.map (·.1)).length) = true then 3 else 0) by unfold renE; rw [HEG.out, if_neg (fun h => h rfl)])
  have HI1 := Lib.hid (isName_c fr w2 (by omega) (max_below HM.out G2.out.bo.bel (Nat.le_refl _)))
  have HI2 := Lib.hid (isName_c tn w2 (by omega) (max_below HM.out G2.out.bo.bel (Nat.le_refl _)))
  obtain ⟨n1, hn1⟩ : ∃ n1, nameB fr = n1 := ⟨_, rfl⟩
  obtain ⟨n2, hn2⟩ : ∃ n2, nameB tn = n2 := ⟨_, rfl⟩
  have HN1 := Lib.hid hn1
  have HN2 := Lib.hid hn2
  rw [hn1] at HI1
  rw [hn2] at HI2
  rw [hn1, hn2] at HRE
  clear hn1 hn2
  go_upto_region 4 with (fail)
  go_cut [32] (fun v wx => v = .bool (!n1 || !n2) ∧ wx = w2)
  case first =>
    go_wp2_with fail
    refine HI1.out.mono ?_
    rintro e w3 ⟨rfl, rfl⟩
    cases n1 with
    | false =>
      go_wp2
      go_meet
      exact ⟨rfl, rfl⟩
    | true =>
      go_wp2_with fail
      refine HI2.out.mono ?_
      rintro e w3 ⟨rfl, rfl⟩
      cases n2 with
      | false =>
        go_wp2
        go_meet
        exact ⟨rfl, rfl⟩
      | true =>
        go_wp2
        go_meet
        exact ⟨rfl, rfl⟩
  case rest =>
  obtain ⟨rfl, rfl⟩ := hcut
  clear HI1 HI2
  obtain ⟨nb, hnb⟩ : ∃ nb, (!n1 || !n2) = nb := ⟨_, rfl⟩
  have HNB := Lib.hid hnb
  rw [hnb]
  clear hnb
  cases nb with
  | true =>
    have HNN := Lib.hid (HNIL.out wc G2.out.bo.bel 5 (by
      rw [HRE.out, if_pos]
      have h := HNB.out
      revert h
      cases n1 <;> cases n2 <;> simp) (by decide))
    obtain ⟨y0, y1, f0, f1⟩ := HCR.out _ _ _ _ G2.out (by simp)
    clear HNIL
    go_wp2
    refine ⟨rfl, .tuple #[.agg (xCs ⟨#[]⟩ (.slice none 0 0)), .int .i64 0, .int .i64 5], (by rw [results_cell_tmp2 rfl]; go_simp; rfl), ?_⟩
    exact HNN.out
  | false =>
  obtain ⟨rfl, rfl⟩ : n1 = true ∧ n2 = true := by
    have h := HNB.out
    revert h
    cases n1 <;> cases n2 <;> simp
  have HRE2 := Lib.hid (HRE.out.trans (if_neg (by simp)))
  have hf0 : 0 < fr.size := name_pos HN1.out
  clear HRE HNB
  have HSC := Lib.hid (fun (W : World) (hb : Below w.heap.size w W) => show Sc2 W F ls (.slice A L c) by
    have h := H.out.below hb
    exact ⟨h.sli, h.par, h.lt⟩)
  have HQ := Lib.hid (fun (s : ByteArray) (W : World) l u P (hW : RnN w l u P W) (hP : (w.heap.size, xCs t (.slice A L c), 28) ∈ P) => ren1_c t ls (.slice A L c) s w.heap.size W (HSC.out W hW.bo.bel) (by rw [HL.out]; exact hl) (fun y hy => (HBB.out _ (List.mem_map.2 ⟨y, hy, rfl⟩)).1) (HCX.out W l u P hW hP).1 (HCX.out W l u P hW hP).2 (hW.bo.plt hP))
  have HQ1 := Lib.hid (HQ.out fr wc _ _ _ G2.out (by simp))
  go_wp2_with fail
  refine HQ1.out.mono ?_
  rintro e w4 ⟨rfl, hb4⟩
  have G4 := Lib.hid (NS.below G2.out hb4)
  clear hb4 HQ1 G2
  obtain ⟨h1, hh1⟩ : ∃ h1, hasB (ls.map (·.1)) fr = h1 := ⟨_, rfl⟩
  rw [hh1] at HRE2 ⊢
  clear hh1
  cases h1 with
  | false =>
    have HNN := Lib.hid (HNIL.out w4 G4.out.bo.bel 8 (by rw [HRE2.out, if_pos rfl]) (by decide))
    obtain ⟨y0, y1, f0, f1⟩ := HCR.out _ _ _ _ G4.out (by simp)
    clear HNIL
    go_wp2
    refine ⟨rfl, .tuple #[.agg (xCs ⟨#[]⟩ (.slice none 0 0)), .int .i64 0, .int .i64 8], (by rw [results_cell_tmp2 rfl]; go_simp; rfl), ?_⟩
    exact HNN.out
  | true =>
  have HRE3 := Lib.hid (HRE2.out.trans (if_neg (by simp)))
  clear HRE2
  obtain ⟨h2, hh2⟩ : ∃ h2, hasB (ls.map (·.1)) tn = h2 := ⟨_, rfl⟩
  have HQ2 := Lib.hid (HQ.out tn w4 _ _ _ G4.out (by simp))
  rw [hh2] at HRE3 HQ2
  clear hh2 HQ
  go_upto_region 9 with (fail)
  go_cut [41] (fun v wx => v = .bool (!decide (tn = fr) && h2) ∧ Hid (RnN w [] (.slice none 0 0) [(w.heap.size + 1, xCs ⟨#[]⟩ (.slice none 0 0), 28), (w.heap.size, xCs t (.slice A L c), 28)] wx))
  case first =>
    by_cases hq : tn = fr
    · have hqa : (tn.toList == fr.toList) = true := (beqS tn fr).trans (decide_eq_true hq)
      have hqb : (tn.toList != fr.toList) = false := by
        have := (beqS tn fr).trans (decide_eq_true hq)
        simp only [bne, this]; rfl
      have HD := Lib.hid (show (!decide (tn = fr) && h2) = false by rw [decide_eq_true hq]; rfl)
      clear hq
      go_wp2
      go_meet
      exact ⟨by rw [HD.out], G4⟩
    · have hqa : (tn.toList == fr.toList) = false := (beqS tn fr).trans (decide_eq_false hq)
      have hqb : (tn.toList != fr.toList) = true := by
        have := (beqS tn fr).trans (decide_eq_false hq)
        simp only [bne, this]; rfl
      have HD := Lib.hid (show (!decide (tn = fr) && h2) = h2 by rw [decide_eq_false hq]; rfl)
      clear hq
      go_wp2_with fail
      refine HQ2.out.mono ?_
      rintro e w5 ⟨rfl, hb5⟩
      have G5 := Lib.hid (NS.below G4.out hb5)
      clear hb5
      go_wp2
      go_meet
      exact ⟨by rw [HD.out], G5⟩
  case rest =>
  clear G4 HQ2
  obtain ⟨rfl, G5⟩ := hcut
  obtain ⟨tw, htw⟩ : ∃ tw, (!decide (tn = fr) && h2) = tw := ⟨_, rfl⟩
  have HTW := Lib.hid htw
  rw [htw]
  clear htw
  cases tw with
  | true =>
    have HNN := Lib.hid (HNIL.out wc G5.out.bo.bel 6 (by
      rw [HRE3.out, if_pos]
      have h := HTW.out
      simp only [Bool.and_eq_true, Bool.not_eq_true', decide_eq_false_iff_not] at h
      exact h) (by decide))
    obtain ⟨y0, y1, f0, f1⟩ := HCR.out _ _ _ _ G5.out (by simp)
    clear HNIL
    go_wp2
    refine ⟨rfl, .tuple #[.agg (xCs ⟨#[]⟩ (.slice none 0 0)), .int .i64 0, .int .i64 6], (by rw [results_cell_tmp2 rfl]; go_simp; rfl), ?_⟩
    exact HNN.out
  | false =>
  have HRE4 := Lib.hid (HRE3.out.trans (if_neg (fun h => by
    have h2 := HTW.out
    rw [decide_eq_false h.1, h.2] at h2
    cases h2)))
  clear HRE3 HTW
  obtain ⟨d0, d1⟩ := HCX.out _ _ _ _ G5.out (by simp)
  have HCP := Lib.hid (copiedN_c t ls (.slice A L c) wc (HSC.out wc G5.out.bo.bel) (by rw [HL.out]; exact hl) (fun y hy => Nat.le_trans (HBB.out _ (List.mem_map.2 ⟨y, hy, rfl⟩)).1 (by decide)))
  go_wp2_with fail
  refine HCP.out.mono ?_
  rintro e w6 ⟨l3, v3, rfl, hl3, hN3⟩
  have hG6 := RnN.take G5.out hN3
  have hL3 : l3.length = L := by have := congrArg List.length hl3; simpa [HL.out] using this
  have HL3 := Lib.hid hl3
  obtain ⟨A3, c3, hv3, hc31, _⟩ := (hG6.bo.own.sliF (enc := fun x : Scene × Value => x.1.cells x.2) (hn := fun _ => rfl) (F := fun _ => True) (fun _ _ => trivial)).form
  rw [hL3] at hv3 hc31
  subst hv3
  have hG7 := NS.new hG6 (xCs t (.slice A3 L c3)) 28
  have hX6 : w.heap.size + 1 < w6.heap.size := hG6.bo.plt (p := (w.heap.size + 1, xCs ⟨#[]⟩ (.slice none 0 0), 28)) (by simp)
  clear hN3 HCP hG6 G5 hl3 d0 d1
  rw [show xCs t (.slice A3 L c3) = #[.string t, .slice A3 L c3] from rfl]
  go_upto_region 12 with (fail)
  generalize hW : w6.alloc (.cells #[.string t, .slice A3 L c3] 28) = w7
  have G7 := Lib.hid (show RnN w l3 (.slice A3 L c3) [(w6.heap.size, xCs t (.slice A3 L c3), 28), (w.heap.size + 1, xCs ⟨#[]⟩ (.slice none 0 0), 28), (w.heap.size, xCs t (.slice A L c), 28)] w7 by rw [← hW]; exact hG7)
  clear hW hG7 eg
  generalize w6.heap.size = X at *
  have HCV := Lib.hid (fun (W : World) l v u P (hW : RnN w l v P W) (hP : (X, xCs t u, 28) ∈ P) => show W.cell? ⟨X, 0, none⟩ = some (.string t) ∧ W.cell? ⟨X, 1, none⟩ = some u by
    obtain ⟨gx, _⟩ := NS.cell hW hP
    exact ⟨gx 0, gx 1⟩)
  have HLm := Lib.hid (show (ls.map (·.1)).length = L by rw [List.length_map]; exact HL.out)
  obtain ⟨xs, hxs⟩ : ∃ xs, ls.map (·.1) = xs := ⟨_, rfl⟩
  have HXS := Lib.hid hxs
  have HRE5 := Lib.hid (show renE ⟨t, ls.map (·.1)⟩ fr tn = (if lrgL fr tn (seenP xs xs.length) = true then 2 else if frmL fr tn (seenP xs xs.length) = true then 3 else 0) by rw [← hxs]; exact HRE4.out)
  rw [hxs] at HBB HL3 HLm
  clear hxs HRE4
  have HSN := Lib.hid (fun k => seenP_len xs (fun x hx => (HBB.out x hx).1) k)
  obtain ⟨v1, v2⟩ := HCV.out _ _ _ _ _ G7.out (List.mem_cons_self ..)
  go_wp2
  go_loopw [12, 13, 14, 56] (fun s12 s13 s14 i wr => ∃ (k : Nat) (lk : List (Scene × Value)), k ≤ L ∧ i = .int .i64 k ∧ s12 = .int .i64 (manyL fr tn (seenP xs k)) ∧ s13 = .bool (lrgL fr tn (seenP xs k)) ∧ s14 = .bool (frmL fr tn (seenP xs k)) ∧ Hid (lk.map (·.1) = renK fr tn xs k) ∧ Hid (RnN w lk (.slice A3 L c3) [(X, xCs t (.slice A3 L c3), 28), (w.heap.size + 1, xCs ⟨#[]⟩ (.slice none 0 0), 28), (w.heap.size, xCs t (.slice A L c), 28)] wr)) (fun _ _ _ i _ => L - (intOf i).toNat)
  case atStart => exact ⟨0, l3, Nat.zero_le _, rfl, rfl, rfl, rfl, Lib.hid HL3.out, G7⟩
  case round =>
    clear G7 v1 v2
    obtain ⟨k, lk, hk, rfl, rfl, rfl, rfl, HK, HG⟩ := hrel
    obtain ⟨v1, v2⟩ := HCV.out _ _ _ _ _ HG.out (List.mem_cons_self ..)
    by_cases hlt : k < L
    · have hkx : k < xs.length := by rw [HLm.out]; exact hlt
      have hlkl : lk.length = L := by have h1 := congrArg List.length HK.out; rw [List.length_map, renK_len, HLm.out] at h1; exact h1
      have hkl : k < lk.length := by omega
      obtain ⟨g3, cap3, hv3, hb3, hg3⟩ := Own.some_ (enc := fun x : Scene × Value => x.1.cells x.2) (hn := fun _ => rfl) HG.out.bo.own (by omega)
      rw [hlkl] at hv3
      injection hv3 with hv3 hle hv4
      clear hle
      subst hv3
      subst hv4
      have hgk : lk[k].1 = xs[k] := by
        have h1 := renK_get (fr := fr) (tn := tn) hkx
        rw [← HK.out, List.getElem?_map, List.getElem?_eq_getElem hkl] at h1
        simpa using h1
      have hcs := (Own.cellAt (enc := fun x : Scene × Value => x.1.cells x.2) (hn := fun _ => rfl) HG.out.bo.own k hkl 4 (by decide)).1
      have hc4 : wr.cell? ⟨g3, k * 5 + 4, none⟩ = some lk[k].2 := hcs
      have hrow : Own paraR wr w.heap.size w.heap.size 78 lk[k].1.paras lk[k].2 := (HG.out.row k lk[k] (List.getElem?_eq_getElem hkl)).1
      rw [hgk] at hrow
      have hbd := HBB.out _ (List.getElem_mem hkx)
      obtain ⟨Ak, ck, hvk, _, _⟩ := (hrow.sliF (F := fun _ => True) (enc := Para.cells) (hn := fun _ => rfl) (fun _ _ => trivial)).form
      have HK0 := Lib.hid (show lk.map (·.1) = renKJ fr tn xs k 0 by rw [renKJ_zero]; exact HK.out)
      have HVK := Lib.hid (show (lk.map (·.2))[k]? = some (.slice Ak xs[k].paras.length ck) by rw [List.getElem?_map, List.getElem?_eq_getElem hkl, ← hvk]; rfl)
      have HEND := Lib.hid (renKJ_end (fr := fr) (tn := tn) hkx)
      have HSE := Lib.hid (seenP_next hkx)
      have HS0 := Lib.hid (seenQ_zero xs k xs[k].paras)
      have HJN := Lib.hid (fun j hj => renKJ_next (fr := fr) (tn := tn) (j := j) hkx hj)
      have HJG := Lib.hid (fun j => renKJ_get (fr := fr) (tn := tn) (j := j) hkx)
      have HSQ := Lib.hid (fun j (hj : j < xs[k].paras.length) => seenQ_next (xs := xs) (k := k) hj)
      have hsl := HSN.out k
      rw [hvk] at hc4
      clear hrow hvk hcs hgk
      generalize xs[k]'hkx = x at *
      have HBD := Lib.hid hbd.2
      have hpl := hbd.1
      obtain ⟨M, hM⟩ : ∃ M, x.paras.length = M := ⟨_, rfl⟩
      have HMP := Lib.hid hM
      rw [hM] at HVK HEND HSE hpl hc4
      have hkb : k * 100000 ≤ 1000 * 100000 := Nat.mul_le_mul (by omega) (Nat.le_refl _)
      clear hbd hM HK hkl
      have hkI : (k : Int) < (L : Int) := by omega
      go_wp2
      go_loopw [12, 13, 14, 66] (fun s12 s13 s14 i wr => ∃ (j : Nat) (lk2 : List (Scene × Value)), j ≤ M ∧ i = .int .i64 j ∧ s12 = .int .i64 (manyL fr tn (seenQ xs k x.paras j)) ∧ s13 = .bool (lrgL fr tn (seenQ xs k x.paras j)) ∧ s14 = .bool (frmL fr tn (seenQ xs k x.paras j)) ∧ Hid (lk2.map (·.1) = renKJ fr tn xs k j) ∧ Hid ((lk2.map (·.2))[k]? = some (.slice Ak M ck)) ∧ Hid (RnN w lk2 (.slice (some ⟨g3, 0, none⟩) L c3) [(X, xCs t (.slice (some ⟨g3, 0, none⟩) L c3), 28), (w.heap.size + 1, xCs ⟨#[]⟩ (.slice none 0 0), 28), (w.heap.size, xCs t (.slice A L c), 28)] wr)) (fun _ _ _ i _ => M - (intOf i).toNat)
      case atStart => exact ⟨0, lk, Nat.zero_le _, rfl, by rw [HS0.out], by rw [HS0.out], by rw [HS0.out], HK0, HVK, HG⟩
      case round =>
        clear HK0 HVK HG hc4 v1 v2
        obtain ⟨j, lk2, hj, rfl, rfl, rfl, rfl, HK, HVK, HG⟩ := hrel
        have hlk2 : k < lk2.length := by
          have h1 := HVK.out
          rw [List.getElem?_map] at h1
          cases h2 : lk2[k]? with
          | none => rw [h2] at h1; cases h1
          | some y => exact (List.getElem?_eq_some_iff.1 h2).1
        have hg2 : lk2[k].2 = .slice Ak M ck := by
          have h1 := HVK.out
          rw [List.getElem?_map, List.getElem?_eq_getElem hlk2] at h1
          simpa using h1
        by_cases hlj : j < M
        · have hjx : j < x.paras.length := by rw [HMP.out]; exact hlj
          obtain ⟨v1, v2⟩ := HCV.out _ _ _ _ _ HG.out (List.mem_cons_self ..)
          have hg1 : lk2[k].1.paras = renJ fr tn x.paras j := by
            have h1 := HJG.out j
            rw [← HK.out, List.getElem?_map, List.getElem?_eq_getElem hlk2] at h1
            simp only [Option.map_some, Option.some.injEq] at h1
            rw [h1]
          have hc4 : wr.cell? ⟨g3, k * 5 + 4, none⟩ = some (.slice Ak M ck) := by
            have h1 := (Own.cellAt (enc := fun x : Scene × Value => x.1.cells x.2) (hn := fun _ => rfl) HG.out.bo.own k hlk2 4 (by decide)).1
            rw [← hg2]
            exact h1
          have hrow : Own paraR wr w.heap.size w.heap.size 78 lk2[k].1.paras lk2[k].2 := (HG.out.row k lk2[k] (List.getElem?_eq_getElem hlk2)).1
          rw [hg1, hg2] at hrow
          obtain ⟨gk, cc, hvk, hb1, hb2⟩ := Own.some_ (enc := Para.cells) (hn := fun _ => rfl) hrow (by rw [renJ_len]; omega)
          rw [renJ_len, HMP.out] at hvk
          injection hvk with hvk hle hck
          clear hle
          subst hvk
          subst hck
          have hjl : j < (renJ fr tn x.paras j).length := by rw [renJ_len]; exact hjx
          have hp0 := Own.cellAt (enc := Para.cells) (hn := fun _ => rfl) hrow j hjl 0 (by decide)
          have hp1 := Own.cellAt (enc := Para.cells) (hn := fun _ => rfl) hrow j hjl 1 (by decide)
          rw [renJ_get hjx hjl] at hp0 hp1
          have p0 : wr.cell? ⟨gk, j * 2, none⟩ = some (.int .i64 (x.paras[j]'hjx).kind) := hp0.1
          have p1 : wr.cell? ⟨gk, j * 2 + 1, none⟩ = some (.string (x.paras[j]'hjx).text) := hp1.1
          have f1 : wr.frozen? ⟨gk, j * 2 + 1, none⟩ = false := hp1.2
          have htx := HBD.out _ (List.getElem_mem hjx)
          have HJ1 := Lib.hid (HJN.out j hjx)
          have HQ1 := Lib.hid (HSQ.out j hjx)
          have hjlk : j < lk2[k].1.paras.length := by rw [hg1]; exact hjl
          have HPO := Lib.hid (fun (W : World) (hW : RnN w lk2 (.slice (some ⟨g3, 0, none⟩) L c3) [(X, xCs t (.slice (some ⟨g3, 0, none⟩) L c3), 28), (w.heap.size + 1, xCs ⟨#[]⟩ (.slice none 0 0), 28), (w.heap.size, xCs t (.slice A L c), 28)] W) (nt : ByteArray) => RnN.poke hW hlk2 hg2 hjlk (fun q => ⟨q.kind, nt⟩) (.string nt) (fun _ => rfl) (by decide : 1 < 2))
          have HPC := Lib.hid (fun (W : World) (hW : RnN w lk2 (.slice (some ⟨g3, 0, none⟩) L c3) [(X, xCs t (.slice (some ⟨g3, 0, none⟩) L c3), 28), (w.heap.size + 1, xCs ⟨#[]⟩ (.slice none 0 0), 28), (w.heap.size, xCs t (.slice A L c), 28)] W) => show W.cell? ⟨gk, j * 2, none⟩ = some (.int .i64 (x.paras[j]'hjx).kind) ∧ W.cell? ⟨gk, j * 2 + 1, none⟩ = some (.string (x.paras[j]'hjx).text) ∧ W.frozen? ⟨gk, j * 2 + 1, none⟩ = false by
            have hrow : Own paraR W w.heap.size w.heap.size 78 lk2[k].1.paras lk2[k].2 := (hW.row k lk2[k] (List.getElem?_eq_getElem hlk2)).1
            rw [hg1, hg2] at hrow
            have hp0 := Own.cellAt (enc := Para.cells) (hn := fun _ => rfl) hrow j hjl 0 (by decide)
            have hp1 := Own.cellAt (enc := Para.cells) (hn := fun _ => rfl) hrow j hjl 1 (by decide)
            rw [renJ_get hjx hjl] at hp0 hp1
            exact ⟨hp0.1, hp1.1, hp1.2⟩)
          have hsj := HSN.out k
          have hmb := manyL_bd fr tn (seenQ xs k x.paras j)
          have hsb : (seenQ xs k x.paras j).length ≤ 200000000 := by
            unfold seenQ
            rw [List.length_append, List.length_take]
            omega
          generalize x.paras[j]'hjx = p at *
          have HKD := Lib.hid (renP_kind fr tn p)
          have HPM := Lib.hid (manyL_snoc fr tn (seenQ xs k x.paras j) p)
          have HPL := Lib.hid (lrgL_snoc fr tn (seenQ xs k x.paras j) p)
          have HPF := Lib.hid (frmL_snoc fr tn (seenQ xs k x.paras j) p)
          rw [← HQ1.out] at HPM HPL HPF
          obtain ⟨mz, hmz⟩ : ∃ mz, manyL fr tn (seenQ xs k x.paras j) = mz := ⟨_, rfl⟩
          obtain ⟨lb, hlb⟩ : ∃ lb, lrgL fr tn (seenQ xs k x.paras j) = lb := ⟨_, rfl⟩
          obtain ⟨fb, hfb⟩ : ∃ fb, frmL fr tn (seenQ xs k x.paras j) = fb := ⟨_, rfl⟩
          rw [hmz] at HPM hmb ⊢
          rw [hlb] at HPL ⊢
          rw [hfb] at HPF ⊢
          have hjI : (j : Int) < (M : Int) := by omega
          clear hmz hlb hfb hrow hp0 hp1 hg1 hjl hjlk hjx
          obtain ⟨nt, hnt⟩ : ∃ nt, (renP fr tn p).text = nt := ⟨_, rfl⟩
          have HNT := Lib.hid hnt
          rw [hnt] at HJ1
          clear hnt
          go_upto_block 5 with (fail)
          go_cut [18] (fun v wx => v = .string nt ∧ Hid (RnN w lk2 (.slice (some ⟨g3, 0, none⟩) L c3) [(X, xCs t (.slice (some ⟨g3, 0, none⟩) L c3), 28), (w.heap.size + 1, xCs ⟨#[]⟩ (.slice none 0 0), 28), (w.heap.size, xCs t (.slice A L c), 28)] wx))
          case first =>
            clear HPM HPL HPF
            by_cases q2 : p.kind = 2
            · have e2 : (p.kind != 2) = false := by rw [q2]; rfl
              by_cases q3 : p.text = fr
              · have e3 : (p.text.toList == fr.toList) = true := (beqS _ _).trans (decide_eq_true q3)
                have HR := Lib.hid (show nt = tn by rw [← HNT.out]; unfold renP; rw [if_pos q2, if_pos q3])
                clear q2 q3
                go_wp2
                go_meet
                exact ⟨by rw [HR.out], HG⟩
              · have e3 : (p.text.toList == fr.toList) = false := (beqS _ _).trans (decide_eq_false q3)
                have HR := Lib.hid (show nt = p.text by rw [← HNT.out]; unfold renP; rw [if_pos q2, if_neg q3])
                clear q2 q3
                go_wp2
                go_meet
                exact ⟨by rw [HR.out], HG⟩
            · have e2 : (p.kind != 2) = true := bne_iff_ne.2 q2
              have HR := Lib.hid (show nt = repS p.text fr tn by rw [← HNT.out]; unfold renP; rw [if_neg q2])
              have HRP := Lib.hid (replaced_c p.text fr tn wr (by omega) hf0 hf1 ht1)
              clear q2
              go_wp2_with fail
              refine HRP.out.mono ?_
              rintro e w8 ⟨rfl, hb8⟩
              have G8 := Lib.hid (NS.below HG.out hb8)
              clear hb8
              go_wp2
              go_meet
              exact ⟨by rw [HR.out], G8⟩
          case rest =>
          clear HG p0 p1 f1 v1 v2 hc4
          obtain ⟨rfl, HG⟩ := hcut
          obtain ⟨p0, p1, f1⟩ := HPC.out _ HG.out
          have ew : IntKind.i64.wrap (mz + 1) = mz + 1 := IntWalk.i64_in _ (by omega)
          obtain ⟨eb, heb⟩ : ∃ eb, (nt.toList == p.text.toList) = eb := ⟨_, rfl⟩
          go_upto_if 101 with (fail)
          have HEB := Lib.hid (show decide (nt = p.text) = eb from (beqS _ _).symm.trans heb)
          clear heb
          go_cut [12] (fun v wx => v = .int .i64 (manyL fr tn (seenQ xs k x.paras (j + 1))) ∧ wx = wc)
          case first =>
            have HR := Lib.hid (show manyL fr tn (seenQ xs k x.paras (j + 1)) = mz + (if (!eb) = true then 1 else 0) by
              rw [HPM.out]
              unfold difP
              rw [HNT.out, HEB.out])
            clear hf1 ht1 hcm hlc hl hf0 hL3 hc31 hk hlt hkx hlkl hb3 hg3 hsl hpl hkb hlk2 hlj hb1 hb2 hg2 hsj hsb htx hmb hjI
            cases eb with
            | true =>
              clear ew
              go_wp2
              go_meet
              exact ⟨by rw [HR.out]; simp, rfl⟩
            | false =>
              go_wp2
              go_meet
              exact ⟨by rw [HR.out]; simp, rfl⟩
          case rest =>
          obtain ⟨rfl, rfl⟩ := hcut
          have hPO := HPO.out _ HG.out nt
          have HK9 := Lib.hid (show (lk2.modify k (fun y => ({ y.1 with paras := y.1.paras.modify j (fun q => ⟨q.kind, nt⟩) }, y.2))).map (·.1) = renKJ fr tn xs k (j + 1) by
            rw [← HJ1.out, ← HK.out]
            exact map_mod1 lk2 k (fun x => { x with paras := x.paras.modify j (fun q => ⟨q.kind, nt⟩) }))
          have HV9 := Lib.hid (show ((lk2.modify k (fun y => (({ y.1 with paras := y.1.paras.modify j (fun q => ⟨q.kind, nt⟩) } : Scene), y.2))).map (·.2))[k]? = some (.slice (some ⟨gk, 0, none⟩) M ck) by
            rw [List.getElem?_map, List.getElem?_modify]
            have h1 := HVK.out
            rw [List.getElem?_map] at h1
            cases h2 : lk2[k]? with
            | none => rw [h2] at h1; cases h1
            | some y => rw [h2] at h1; simpa using h1)
          have G9 := Lib.hid hPO
          have hp9 : (wc.setCell ⟨gk, j * 2 + 1, none⟩ (.string nt)).cell? ⟨gk, j * 2, none⟩ = some (.int .i64 p.kind) := by
            have hl9 : k < (lk2.modify k (fun y => (({ y.1 with paras := y.1.paras.modify j (fun q => ⟨q.kind, nt⟩) } : Scene), y.2))).length := by rw [List.length_modify]; exact hlk2
            have hne : (⟨gk, j * 2 + 1, none⟩ : Addr) ≠ ⟨gk, j * 2, none⟩ := fun e => by
              injection e with _ e
              omega
            rw [World.cell?_setCell_other _ _ _ _ hne]
            exact p0
          have HL2 := Lib.hid (show lrgL fr tn (seenQ xs k x.paras (j + 1)) = (lb || (decide (2000 < nt.size) || (decide (p.kind = 3) && decide (200 < nt.size)))) by
            rw [HPL.out]
            unfold lrgP
            rw [HNT.out, HKD.out])
          have HF2 := Lib.hid (show frmL fr tn (seenQ xs k x.paras (j + 1)) = (fb || (decide (p.kind = 5) && !turnB nt)) by
            rw [HPF.out]
            unfold frmP
            rw [HNT.out, HKD.out])
          have hnz : nt.size ≤ 20020000 := by
            rw [← HNT.out]
            unfold renP
            split
            · split
              · dsimp only; omega
              · omega
            · dsimp only
              have h1 := repS_sz p.text fr tn
              have h2 : p.text.size * (1 + tn.size) ≤ 20000 * 1001 := Nat.mul_le_mul (by omega) (by omega)
              omega
          clear hPO HPC HPO HJ1 HPL HPF HPM p0
          go_upto_region 28 with (fail)
          generalize wc.setCell ⟨gk, j * 2 + 1, none⟩ (.string nt) = w9 at *
          clear p1 f1
          go_cut [13] (fun v wx => v = .bool (lrgL fr tn (seenQ xs k x.paras (j + 1))) ∧ wx = w9)
          case first =>
            cases lb with
            | true =>
              have HR := Lib.hid (show lrgL fr tn (seenQ xs k x.paras (j + 1)) = true by rw [HL2.out]; rfl)
              go_wp2
              go_meet
              exact ⟨by rw [HR.out], rfl⟩
            | false =>
              by_cases a1 : 2000 < nt.size
              · have HR := Lib.hid (show lrgL fr tn (seenQ xs k x.paras (j + 1)) = true by rw [HL2.out, decide_eq_true a1]; rfl)
                have a1I : (2000 : Int) < (nt.size : Int) := by omega
                go_wp2
                go_meet
                exact ⟨by rw [HR.out], rfl⟩
              · have a1I : ¬ (2000 : Int) < (nt.size : Int) := by omega
                by_cases a2 : p.kind = 3
                · have e2 : (p.kind == 3) = true := beq_iff_eq.2 a2
                  by_cases a3 : 200 < nt.size
                  · have HR := Lib.hid (show lrgL fr tn (seenQ xs k x.paras (j + 1)) = true by rw [HL2.out, decide_eq_false a1, decide_eq_true a2, decide_eq_true a3]; rfl)
                    have a3I : (200 : Int) < (nt.size : Int) := by omega
                    clear a2
                    go_wp2
                    go_meet
                    exact ⟨by rw [HR.out], rfl⟩
                  · have HR := Lib.hid (show lrgL fr tn (seenQ xs k x.paras (j + 1)) = false by rw [HL2.out, decide_eq_false a1, decide_eq_true a2, decide_eq_false a3]; rfl)
                    have a3I : ¬ (200 : Int) < (nt.size : Int) := by omega
                    clear a2
                    go_wp2
                    go_meet
                    exact ⟨by rw [HR.out]; try exact congrArg Value.bool (decide_eq_false (by omega)), rfl⟩
                · have e2 : (p.kind == 3) = false := beq_eq_false_iff_ne.2 a2
                  have HR := Lib.hid (show lrgL fr tn (seenQ xs k x.paras (j + 1)) = false by rw [HL2.out, decide_eq_false a1, decide_eq_false a2]; rfl)
                  clear a2
                  go_wp2
                  go_meet
                  exact ⟨by rw [HR.out], rfl⟩
          case rest =>
          obtain ⟨rfl, rfl⟩ := hcut
          have HIT := Lib.hid (isTurn_c nt wc (by omega))
          cases fb with
          | true =>
            have HR := Lib.hid (show frmL fr tn (seenQ xs k x.paras (j + 1)) = true by rw [HF2.out]; rfl)
            clear HL2 HF2 HIT
            go_wp2
            go_roundw
            case rel => exact ⟨j + 1, _, by omega, intNum, rfl, rfl, by rw [HR.out], HK9, HV9, G9⟩
            case measure => simp [intOf]; omega
          | false =>
            by_cases a2 : p.kind = 5
            · have e2 : (p.kind == 5) = true := beq_iff_eq.2 a2
              have HR := Lib.hid (show frmL fr tn (seenQ xs k x.paras (j + 1)) = !turnB nt by rw [HF2.out, decide_eq_true a2]; simp)
              generalize turnB nt = tb at *
              clear a2 HL2 HF2
              go_wp2_with fail
              refine HIT.out.mono ?_
              rintro e w10 ⟨rfl, rfl⟩
              clear HIT
              cases tb with
              | true =>
                go_wp2
                go_roundw
                case rel => exact ⟨j + 1, _, by omega, intNum, rfl, rfl, by rw [HR.out]; rfl, HK9, HV9, G9⟩
                case measure => simp [intOf]; omega
              | false =>
                go_wp2
                go_roundw
                case rel => exact ⟨j + 1, _, by omega, intNum, rfl, rfl, by rw [HR.out]; rfl, HK9, HV9, G9⟩
                case measure => simp [intOf]; omega
            · have e2 : (p.kind == 5) = false := beq_eq_false_iff_ne.2 a2
              have HR := Lib.hid (show frmL fr tn (seenQ xs k x.paras (j + 1)) = false by rw [HF2.out, decide_eq_false a2]; rfl)
              clear a2 HL2 HF2 HIT
              go_wp2
              go_roundw
              case rel => exact ⟨j + 1, _, by omega, intNum, rfl, rfl, by rw [HR.out], HK9, HV9, G9⟩
              case measure => simp [intOf]; omega
        · have HE := Lib.hid (show lk2.map (·.1) = renK fr tn xs (k + 1) by rw [HK.out, ← HEND.out, show j = M by omega])
          have HS := Lib.hid (show seenP xs (k + 1) = seenQ xs k x.paras j by rw [HSE.out, show j = M by omega])
          go_wp2
          go_roundw
          case rel => exact ⟨k + 1, lk2, by omega, intNum, by rw [HS.out], by rw [HS.out], by rw [HS.out], HE, HG⟩
          case measure => simp [intOf]; omega
    · have hkL : k = xs.length := by rw [HLm.out]; omega
      have HKE := Lib.hid (show lk.map (·.1) = xs.map (renX fr tn) by rw [HK.out, hkL, renK_end])
      obtain ⟨y0, y1, f0, f1⟩ := HCR.out _ _ _ _ HG.out (by simp)
      have HRE6 := Lib.hid (show renE ⟨t, ls.map (·.1)⟩ fr tn = (if lrgL fr tn (seenP xs k) = true then 2 else if frmL fr tn (seenP xs k) = true then 3 else 0) by rw [HRE5.out, hkL])
      have HMY := Lib.hid (show manyL fr tn (seenP xs xs.length) = manyL fr tn (seenP xs k) by rw [hkL])
      obtain ⟨lb, hlb⟩ : ∃ lb, lrgL fr tn (seenP xs k) = lb := ⟨_, rfl⟩
      obtain ⟨fb, hfb⟩ : ∃ fb, frmL fr tn (seenP xs k) = fb := ⟨_, rfl⟩
      rw [hlb, hfb] at HRE6
      rw [hlb, hfb]
      clear hlb hfb hkL HK
      cases lb with
      | true =>
        have HNN := Lib.hid (HNIL.out wr HG.out.bo.bel 2 (by rw [HRE6.out, if_pos rfl]) (by decide))
        clear HNIL
        go_wp2
        refine ⟨rfl, .tuple #[.agg (xCs ⟨#[]⟩ (.slice none 0 0)), .int .i64 0, .int .i64 2], (by rw [results_cell_tmp2 rfl]; go_simp; rfl), ?_⟩
        exact HNN.out
      | false =>
      cases fb with
      | true =>
        have HNN := Lib.hid (HNIL.out wr HG.out.bo.bel 3 (by rw [HRE6.out, if_neg (by decide), if_pos rfl]) (by decide))
        clear HNIL
        go_wp2
        refine ⟨rfl, .tuple #[.agg (xCs ⟨#[]⟩ (.slice none 0 0)), .int .i64 0, .int .i64 3], (by rw [results_cell_tmp2 rfl]; go_simp; rfl), ?_⟩
        exact HNN.out
      | false =>
        have HR0 := Lib.hid (show renE ⟨t, ls.map (·.1)⟩ fr tn = 0 by rw [HRE6.out, if_neg (by decide), if_neg (by decide)])
        have HF := Lib.hid (NS.set (NS.set (NS.less HG.out (Q := [(w.heap.size + 1, xCs ⟨#[]⟩ (.slice none 0 0), 28)]) (by simp)) (i := 0) (.string t) (by simp)) (i := 1) (.slice A3 L c3) (by simp))
        clear HNIL HG HRE6
        generalize manyL fr tn (seenP xs k) = mz at *
        go_wp2
        refine ⟨rfl, .tuple #[.agg (xCs t (.slice A3 L c3)), .int .i64 mz, .int .i64 0], (by rw [results_cell_tmp2 rfl]; go_simp; rfl), ?_⟩
        exact ⟨t, lk, _, mz, 0, rfl, HF.out.bo.bel, RnN.sc2 HF.out, HR0.out, fun _ => ⟨rfl, by dsimp only; rw [HXS.out]; exact HKE.out, by dsimp only; rw [HXS.out]; exact HMY.out.symm⟩, fun h => absurd rfl h⟩
end Go.Proofs.YtkhegeobdcemkaaGreatDoor

