/- Texts packed: SdZ. -/
import Derived.Test.YtkhegeobdcemkaaGreatDoorSd39
import Derived.Test.YtkhegeobdcemkaaGreatDoorSd24
import Derived.Test.YtkhegeobdcemkaaGreatDoorSd11
import Derived.Test.YtkhegeobdcemkaaGreatDoorSd37
/- script.Sides, walked. -/
namespace Go.Proofs.YtkhegeobdcemkaaGreatDoor
set_option linter.unusedVariables false
open Go.RowKit Go.Sort

def sidE (x : Script) (nm : ByteArray) : Int := if ¬ chkE x = 0 then chkE x else if nameB nm = false then 5 else if (sidS x.scenes nm).isEmpty = true then 8 else 0
def SdP (x : Script) (nm : ByteArray) (w : World) (e : Ending) (w' : World) : Prop := ∃ (t : ByteArray) (l : List (Scene × Value)) (v : Value) (E : Int), e = .returned (.tuple #[.agg (xCs t v), .int .i64 E]) ∧ BI w l v [] w' ∧ sidE x nm = E ∧ (E = 0 → t = x.title ∧ l.map (·.1) = sidS x.scenes nm)
set_option maxRecDepth 100000 in
set_option maxHeartbeats 8000000 in
theorem Sides_c {F : Nat → Prop} (t : ByteArray) (ls : List (Scene × Value)) (v : Value) (nm : ByteArray) (w : World) (h : ScL w F t ls v) (hB : FdB (ls.map (·.1))) (hm : MaxLaid w) (hnz : nm.size ≤ 1000000) :
    Calls Tryz.prog 23 #[.agg #[.string t, v], .string nm] w (SdP ⟨t, ls.map (·.1)⟩ nm w) := by
  obtain ⟨i0, hi0, hz0, hz1, hz2⟩ := info_parts (show (Tryz.prog.info? 71).map (fun i => (i.zero, i.size, i.bytes)) = some (some (.agg #[.string ⟨#[]⟩, .int .i64 0, .string ⟨#[]⟩, .int .i64 0, .slice none 0 0]), 5, 72) by kernel_rfl)
  obtain ⟨A, c, rfl, hlc, hcm⟩ := h.sli.form
  obtain ⟨L, hL⟩ : ∃ L, ls.length = L := ⟨_, rfl⟩
  have HL := Lib.hid hL
  have hl : L ≤ 1000 := by have := hB.1; rw [List.length_map] at this; omega
  have HBB := Lib.hid hB.2
  rw [hL] at h hlc ⊢
  have H := Lib.hid h
  have HM := Lib.hid hm
  clear h hm hL hB
  go_enter Tryz.func23, Tryz.ntmps23
  go_upto_region 1 with (fail)
  have hG : BI w [] (.slice none 0 0) [(w.heap.size + 1, xCs ⟨#[]⟩ (.slice none 0 0), 28), (w.heap.size, xCs t (.slice A L c), 28)] ((w.alloc (.cells (xCs t (.slice A L c)) 28)).alloc (.cells (xCs ⟨#[]⟩ (.slice none 0 0)) 28)) := by
    have h := ((BI.start w).new (xCs t (.slice A L c)) 28).new (xCs ⟨#[]⟩ (.slice none 0 0)) 28
    rw [show (w.alloc (.cells (xCs t (.slice A L c)) 28)).heap.size = w.heap.size + 1 by simp] at h
    exact h
  generalize hW : (w.alloc (.cells #[.string t, .slice A L c] 28)).alloc (.cells #[.string ⟨#[]⟩, .slice none 0 0] 28) = w1
  have G1 := Lib.hid (show BI w [] (.slice none 0 0) [(w.heap.size + 1, xCs ⟨#[]⟩ (.slice none 0 0), 28), (w.heap.size, xCs t (.slice A L c), 28)] w1 by rw [← hW]; exact hG)
  clear hG hW
  have HCX := Lib.hid (fun (W : World) l v P (hW : BI w l v P W) (hP : (w.heap.size, xCs t (.slice A L c), 28) ∈ P) => show W.cell? ⟨w.heap.size, 0, none⟩ = some (.string t) ∧ W.cell? ⟨w.heap.size, 1, none⟩ = some (.slice A L c) from
    have ⟨x, _⟩ := hW.cell hP
    ⟨x 0, x 1⟩)
  have HCR := Lib.hid (fun (W : World) l v P (hW : BI w l v P W) (hP : (w.heap.size + 1, xCs ⟨#[]⟩ (.slice none 0 0), 28) ∈ P) => show W.cell? ⟨w.heap.size + 1, 0, none⟩ = some (.string ⟨#[]⟩) ∧ W.cell? ⟨w.heap.size + 1, 1, none⟩ = some (.slice none 0 0) ∧ W.frozen? ⟨w.heap.size + 1, 0, none⟩ = false ∧ W.frozen? ⟨w.heap.size + 1, 1, none⟩ = false from
    have ⟨x, f⟩ := hW.cell hP
    ⟨x 0, x 1, f 0, f 1⟩)
  obtain ⟨d0, d1⟩ := HCX.out _ _ _ _ G1.out (by simp)
  have HCK := Lib.hid (Check_c t ls (.slice A L c) w1 (by have h := H.out.below G1.out.bo.bel; rw [← HL.out] at h ⊢; exact h) (max_below HM.out G1.out.bo.bel (Nat.le_refl _)))
  go_wp2_with fail
  refine HCK.out.mono ?_
  rintro e w2 ⟨rfl, hb2⟩
  have G2 := Lib.hid (G1.out.below hb2)
  obtain ⟨E, hE⟩ : ∃ E, chkE ⟨t, ls.map (·.1)⟩ = E := ⟨_, rfl⟩
  have HEG := Lib.hid hE
  rw [hE]
  clear hE hb2 G1 d0 d1 HCK
  have HNIL := Lib.hid (fun (W : World) (hb : Below w.heap.size w W) (E' : Int) (hE : sidE ⟨t, ls.map (·.1)⟩ nm = E') (h0 : ¬ E' = 0) =>
    show SdP ⟨t, ls.map (·.1)⟩ nm w (.returned (.tuple #[.agg (xCs ⟨#[]⟩ (.slice none 0 0)), .int .i64 E'])) ((W.setCell ⟨w.heap.size + 1, 0, none⟩ (.string ⟨#[]⟩)).setCell ⟨w.heap.size + 1, 1, none⟩ (.slice none 0 0)) from
      ⟨⟨#[]⟩, [], .slice none 0 0, E', rfl, (BI.start w).below (belSet (belSet hb (by dsimp only; omega) _) (by dsimp only; omega) _), hE, fun e => absurd e h0⟩)
  by_cases hE0 : E = 0
  case neg =>
    have q1 : (E != 0) = true := bne_iff_ne.2 hE0
    have HNN := Lib.hid (HNIL.out w2 G2.out.bo.bel E (by unfold sidE; rw [HEG.out, if_pos hE0]) hE0)
    obtain ⟨y0, y1, f0, f1⟩ := HCR.out _ _ _ _ G2.out (by simp)
    clear HNIL hE0
    go_wp2
    refine ⟨rfl, .tuple #[.agg (xCs ⟨#[]⟩ (.slice none 0 0)), .int .i64 E], (by rw [results_cell_tmp rfl]; go_simp; rfl), ?_⟩
    exact HNN.out
  subst hE0
  have HIN := Lib.hid (isName_c nm w2 (by omega) (max_below HM.out G2.out.bo.bel (Nat.le_refl _)))
  go_wp2_with fail
  refine HIN.out.mono ?_
  rintro e w3 ⟨rfl, rfl⟩
  clear HIN
  cases hnb : nameB nm with
  | false =>
    have HNN := Lib.hid (HNIL.out w2 G2.out.bo.bel 5 (by unfold sidE; rw [HEG.out, if_neg (fun h => h rfl), if_pos hnb]) (by decide))
    obtain ⟨y0, y1, f0, f1⟩ := HCR.out _ _ _ _ G2.out (by simp)
    clear HNIL hnb
    go_wp2
    refine ⟨rfl, .tuple #[.agg (xCs ⟨#[]⟩ (.slice none 0 0)), .int .i64 5], (by rw [results_cell_tmp rfl]; go_simp; rfl), ?_⟩
    exact HNN.out
  | true =>
  have HNB := Lib.hid hnb
  have HSE := Lib.hid (show sidE ⟨t, ls.map (·.1)⟩ nm = if (sidS (ls.map (·.1)) nm).isEmpty = true then 8 else 0 by unfold sidE; rw [HEG.out, if_neg (fun h => h rfl), if_neg (by rw [hnb]; decide)])
  have HRT := Lib.hid (fun x (hx : x ∈ ls.map (·.1)) => show RtP x.paras from parasE_rt ((chkE_ok HEG.out).sc x hx).2.2.2.2)
  obtain ⟨d0, d1⟩ := HCX.out _ _ _ _ G2.out (by simp)
  have G3 := G2.out.new (xCs t (.slice none 0 0)) 28
  have hX2 : w.heap.size + 1 < w2.heap.size := G2.out.bo.plt (p := (w.heap.size + 1, xCs ⟨#[]⟩ (.slice none 0 0), 28)) (by simp)
  clear hnb
  go_upto_region 7 with (fail)
  generalize hW : w2.alloc (.cells #[.string t, .slice none 0 0] 28) = w3
  have G3 := Lib.hid (show BI w [] (.slice none 0 0) [(w2.heap.size, xCs t (.slice none 0 0), 28), (w.heap.size + 1, xCs ⟨#[]⟩ (.slice none 0 0), 28), (w.heap.size, xCs t (.slice A L c), 28)] w3 by rw [← hW]; exact G3)
  clear hW G2 d0 d1
  generalize w2.heap.size = X at *
  have hXw : X ≠ w.heap.size + 1 ∧ X ≠ w.heap.size := ⟨by omega, by omega⟩
  obtain ⟨d0, d1⟩ := HCX.out _ _ _ _ G3.out (by simp)
  have HCV := Lib.hid (fun (W : World) l v u P (hW : BI w l v P W) (hP : (X, xCs t u, 28) ∈ P) => show W.cell? ⟨X, 0, none⟩ = some (.string t) ∧ W.cell? ⟨X, 1, none⟩ = some u ∧ W.frozen? ⟨X, 0, none⟩ = false ∧ W.frozen? ⟨X, 1, none⟩ = false from
    have ⟨x, f⟩ := hW.cell hP
    ⟨x 0, x 1, f 0, f 1⟩)
  go_wp2
  go_loopw [26] (fun i wr => ∃ (k : Nat) (lk : List (Scene × Value)) (vk : Value), k ≤ L ∧ i = .int .i64 k ∧ Hid (lk.map (·.1) = sidN (ls.map (·.1)) nm k) ∧ Hid (BI w lk vk [(X, xCs t vk, 28), (w.heap.size + 1, xCs ⟨#[]⟩ (.slice none 0 0), 28), (w.heap.size, xCs t (.slice A L c), 28)] wr)) (fun i _ => L - (intOf i).toNat)
  case atStart => exact ⟨0, [], .slice none 0 0, Nat.zero_le _, rfl, rfl, G3⟩
  case round =>
    clear G3 d0 d1
    obtain ⟨k, lk, vk, hk, rfl, HK, HG⟩ := hrel
    have hlk : lk.length ≤ k := by have h1 := congrArg List.length HK.out; rw [List.length_map] at h1; have := sidN_len (ls.map (·.1)) nm k; omega
    obtain ⟨A7, c7, hv7, _, _⟩ := (HG.out.bo.own.sliF (enc := fun x : Scene × Value => x.1.cells x.2) (hn := fun _ => rfl) (F := fun _ => True) (fun _ _ => trivial)).form
    obtain ⟨m, hm⟩ : ∃ m, lk.length = m := ⟨_, rfl⟩
    have HLK := Lib.hid hm
    rw [hm] at hv7 hlk
    subst hv7
    clear hm
    by_cases hlt : k < L
    · have hk2 : k < ls.length := by rw [HL.out]; exact hlt
      have hS : Sc2 wr F ls (.slice A L c) := by
        have h := H.out.below HG.out.bo.bel
        exact ⟨h.sli, h.par, h.lt⟩
      obtain ⟨b, off, rfl, hfb, a0, a1, a2, a3, a4⟩ := scAt hS.sli k hk2
      have hltb : b < wr.heap.size := hS.lt b hfb
      have hmem := List.getElem_mem hk2
      have hpk : ∀ W, Below w.heap.size w W → Sli paraR W F (ls[k]'hk2).1.paras (ls[k]'hk2).2 := fun W hb => (H.out.below hb).par _ hmem
      obtain ⟨A4, cc4, h4, _, _⟩ := (hS.par _ hmem).form
      have hkm : k < (ls.map (·.1)).length := by rw [List.length_map]; exact hk2
      have hgm : (ls.map (·.1))[k]'hkm = (ls[k]'hk2).1 := List.getElem_map ..
      have hyes := fun h => sidN_yes (xs := ls.map (·.1)) (nm := nm) hkm h
      have hno := fun h => sidN_no (xs := ls.map (·.1)) (nm := nm) hkm h
      have htn := fun h => tmAt_now (l := ls.map (·.1)) hkm h
      have hbd := HBB.out _ (List.getElem_mem hkm)
      have hrt := HRT.out _ (List.getElem_mem hkm)
      rw [hgm] at hyes hno htn hbd hrt
      rw [h4] at a4 hpk
      clear h4 hmem hgm hkm
      generalize (ls[k]'hk2).1 = x at *
      have HYES := Lib.hid hyes
      have HNO := Lib.hid hno
      have HTN := Lib.hid htn
      have HBD := Lib.hid hbd.2
      have hpl := hbd.1
      have HRP := Lib.hid hrt
      have HPK := Lib.hid hpk
      have HLT := Lib.hid hS.lt
      obtain ⟨M, hM⟩ : ∃ M, x.paras.length = M := ⟨_, rfl⟩
      have HMP := Lib.hid hM
      have HB1 := Lib.hid (HG.out.new #[.string x.no, .int .i64 x.place, .string x.set, .int .i64 x.time, .slice A4 M cc4] 71)
      have hpX : X < wr.heap.size := HG.out.bo.plt (p := (X, xCs t (.slice A7 m c7), 28)) (by simp)
      have hpR : w.heap.size + 1 < wr.heap.size := HG.out.bo.plt (p := (w.heap.size + 1, xCs ⟨#[]⟩ (.slice none 0 0), 28)) (by simp)
      rw [hM] at a4 HPK hpl
      clear hk2 hyes hno htn hbd hrt hpk hS hM HG
      go_upto_region 10 with (fail)
      generalize hW : wr.alloc (.cells #[.string x.no, .int .i64 x.place, .string x.set, .int .i64 x.time, .slice A4 M cc4] 71) = w5 at *
      have hlt5 : ∀ q, F q → q < w5.heap.size := fun q hq => by have h1 := HLT.out q hq; rw [← hW]; simp; omega
      have hpk5 : Sli paraR w5 F x.paras (.slice A4 M cc4) := HPK.out w5 HB1.out.bo.bel
      generalize wr.heap.size = Y at *
      have HCS := Lib.hid (fun (W : World) l v (tm : Int) u P (hW : BI w l v P W) (hP : (Y, #[.string x.no, .int .i64 x.place, .string x.set, .int .i64 tm, u], 71) ∈ P) => show (W.cell? ⟨Y, 0, none⟩ = some (.string x.no) ∧ W.cell? ⟨Y, 1, none⟩ = some (.int .i64 x.place) ∧ W.cell? ⟨Y, 2, none⟩ = some (.string x.set) ∧ W.cell? ⟨Y, 3, none⟩ = some (.int .i64 tm) ∧ W.cell? ⟨Y, 4, none⟩ = some u) ∧ (W.frozen? ⟨Y, 3, none⟩ = false ∧ W.frozen? ⟨Y, 4, none⟩ = false) by
        obtain ⟨gx, gf⟩ := hW.cell hP
        exact ⟨⟨gx 0, gx 1, gx 2, gx 3, gx 4⟩, gf 3, gf 4⟩)
      obtain ⟨⟨s0, s1, s2, s3, s4⟩, _⟩ := HCS.out _ _ _ _ _ _ HB1.out (List.mem_cons_self ..)
      have HHC := Lib.hid (show Calls Tryz.prog _ #[.agg #[.string x.no, .int .i64 x.place, .string x.set, .int .i64 x.time, .slice A4 M cc4], .string nm] w5 _ from hasCue_c (F := F) x (.slice A4 M cc4) nm w5 hpk5 hlt5 (by rw [HMP.out]; omega))
      clear hW a0 a1 a2 a3 a4 hpk5 hlt5 hfb hltb
      go_wp2_with fail
      refine HHC.out.mono ?_
      rintro e w6 ⟨rfl, hb6⟩
      have HB2 := Lib.hid (HB1.out.below hb6)
      clear hb6 HB1 HHC s0 s1 s2 s3 s4
      cases hcb : hcB x.paras nm with
      | false =>
        have HE := Lib.hid (HNO.out hcb)
        clear hcb HYES HNO HTN
        go_wp2
        go_roundw
        case rel => exact ⟨k + 1, lk, _, by omega, intNum, by rw [HE.out]; exact HK, Lib.hid (HB2.out.less (by simp))⟩
        case measure => simp [intOf]; omega
      | true =>
      obtain ⟨em, hem⟩ : ∃ em, (sidN (ls.map (·.1)) nm k).isEmpty = em := ⟨_, rfl⟩
      have HEM := Lib.hid (show em = decide (m = 0) by
        rw [← hem, ← HK.out, ← HLK.out]
        cases lk <;> simp)
      obtain ⟨tm, htm⟩ : ∃ tm, (if em = true then tmAt (ls.map (·.1)) k else x.time) = tm := ⟨_, rfl⟩
      have HTM := Lib.hid htm
      have HE := Lib.hid (show sidN (ls.map (·.1)) nm (k + 1) = sidN (ls.map (·.1)) nm k ++ [⟨x.no, x.place, x.set, tm, partS x.paras nm⟩] by
        rw [HYES.out hcb, hem]
        unfold sidOne
        rw [htm])
      clear hcb hem htm HYES HNO
      obtain ⟨v0, v1, _, _⟩ := HCV.out _ _ _ (.slice A7 m c7) _ HB2.out (by simp)
      obtain ⟨⟨s0, s1, s2, s3, s4⟩, _⟩ := HCS.out _ _ _ _ _ _ HB2.out (List.mem_cons_self ..)
      go_upto_region 11 with (fail)
      go_cut [43] (fun v wx => v = .bool (decide (x.time = 5) && em) ∧ wx = w6)
      case first =>
        clear HTN HTM HE
        by_cases h5 : x.time = 5
        · have q5 : (x.time == 5) = true := beq_iff_eq.2 h5
          have HQ := Lib.hid (show (decide (x.time = 5) && em) = em by rw [decide_eq_true h5, Bool.true_and])
          by_cases h0 : m = 0
          · have q0 : ((m : Int) == 0) = true := beq_iff_eq.2 (by omega)
            have HR := Lib.hid (show em = true from HEM.out.trans (decide_eq_true h0))
            clear h0 h5
            go_wp2
            go_meet
            exact ⟨by rw [HQ.out, HR.out], rfl⟩
          · have q0 : ((m : Int) == 0) = false := beq_eq_false_iff_ne.2 (by omega)
            have HR := Lib.hid (show em = false from HEM.out.trans (decide_eq_false h0))
            clear h0 h5
            go_wp2
            go_meet
            exact ⟨by rw [HQ.out, HR.out], rfl⟩
        · have q5 : (x.time == 5) = false := beq_eq_false_iff_ne.2 h5
          have HQ := Lib.hid (show (decide (x.time = 5) && em) = false by rw [decide_eq_false h5, Bool.false_and])
          clear h5
          go_wp2
          go_meet
          exact ⟨by rw [HQ.out], rfl⟩
      case rest =>
      obtain ⟨rfl, rfl⟩ := hcut
      obtain ⟨tb, htb⟩ : ∃ tb, (decide (x.time = 5) && em) = tb := ⟨_, rfl⟩
      have HTB := Lib.hid htb
      rw [htb]
      clear htb
      go_upto_if 43 with (fail)
      go_cut [] (fun wx => Hid (BI w lk (.slice A7 m c7) [(Y, #[.string x.no, .int .i64 x.place, .string x.set, .int .i64 tm, .slice A4 M cc4], 71), (X, xCs t (.slice A7 m c7), 28), (w.heap.size + 1, xCs ⟨#[]⟩ (.slice none 0 0), 28), (w.heap.size, xCs t (.slice (some ⟨b, off, none⟩) L c), 28)] wx))
      case first =>
        clear HE
        cases tb with
        | false =>
          have HT2 := Lib.hid (show x.time = tm by
            rw [← HTM.out]
            split
            · rename_i he
              refine (HTN.out (.inl fun h5 => ?_)).symm
              have := HTB.out
              rw [he, decide_eq_true h5] at this
              cases this
            · rfl)
          have HB3 := Lib.hid (show BI w lk (.slice A7 m c7) [(Y, #[.string x.no, .int .i64 x.place, .string x.set, .int .i64 tm, .slice A4 M cc4], 71), (X, xCs t (.slice A7 m c7), 28), (w.heap.size + 1, xCs ⟨#[]⟩ (.slice none 0 0), 28), (w.heap.size, xCs t (.slice (some ⟨b, off, none⟩) L c), 28)] wc by rw [← HT2.out]; exact HB2.out)
          go_wp2
          go_meet
          exact HB3
        | true =>
          have hte : tmAt (ls.map (·.1)) k = tm := by
            have h1 := HTB.out
            rw [Bool.and_eq_true] at h1
            rw [← HTM.out, if_pos h1.2]
          have HTE := Lib.hid hte
          obtain ⟨d0, d1⟩ := HCX.out _ _ _ _ HB2.out (by simp)
          have HT := Lib.hid (timesP_c t ls (.slice (some ⟨b, off, none⟩) L c) wc (by
            have h := H.out.below HB2.out.bo.bel
            exact ⟨h.sli, h.par, h.lt⟩) (by rw [HL.out]; exact hl))
          have HLm := Lib.hid (show (ls.map (·.1)).length = L by rw [List.length_map]; exact HL.out)
          clear hte s0 s1 s2 s4
          go_wp2_with fail
          refine HT.out.mono ?_
          rintro e w7 ⟨vt, rfl, hownt, hb7⟩
          have HB3 := Lib.hid (HB2.out.below hb7)
          rw [HLm.out] at hownt
          obtain ⟨gt, ct, hv, hgt1, hgt2⟩ := Own.some_ (enc := fun x : Int => [.int .i64 x]) (hn := fun _ => rfl) hownt (by rw [tmS_len]; omega)
          rw [tmS_len] at hv
          subst hv
          have hct := (Own.cellAt (enc := fun x : Int => [.int .i64 x]) (hn := fun _ => rfl) hownt k (by rw [tmS_len]; omega) 0 (by decide)).1
          rw [show (tmS (ls.map fun x => x.1) L)[k]'(by rw [tmS_len]; omega) = tmAt (ls.map fun x => x.1) k by simp [tmS], HTE.out] at hct
          have hct2 : w7.cell? ⟨gt, k, none⟩ = some (.int .i64 tm) := by rw [show k * 1 + 0 = k by omega] at hct; exact hct
          obtain ⟨⟨_, _, _, s3, _⟩, f3, _⟩ := HCS.out _ _ _ _ _ _ HB3.out (List.mem_cons_self ..)
          have HB4 := Lib.hid (HB3.out.set (i := 3) (.int .i64 tm) (fun p hp => by
            simp only [List.mem_cons, List.not_mem_nil, or_false] at hp
            rcases hp with rfl | rfl | rfl <;> (dsimp only; omega)))
          have hkI : (k : Int) < (L : Int) := by omega
          clear hownt hct hb7 HB2 HT d0 d1
          go_wp2
          go_meet
          exact HB4
      case rest =>
      clear v0 v1 s0 s1 s2 s3 s4 HB2 HTN HTM HTB
      have HB5 := hcut
      clear hcut
      obtain ⟨⟨s0, s1, s2, s3, s4⟩, _⟩ := HCS.out _ _ _ _ _ _ HB5.out (List.mem_cons_self ..)
      have hlt6 : ∀ q, F q → q < wc.heap.size := fun q hq => by have h1 := HLT.out q hq; have h2 := HB5.out.bo.plt (p := (Y, #[.string x.no, .int .i64 x.place, .string x.set, .int .i64 tm, .slice A4 M cc4], 71)) (by simp); dsimp only at h2; omega
      have HPC := Lib.hid (part_c (F := F) x.paras (.slice A4 M cc4) nm wc (HPK.out wc HB5.out.bo.bel) hlt6 (by rw [HMP.out]; exact hpl) HBD.out HRP.out HNB.out)
      clear hlt6
      go_wp2_with fail
      refine HPC.out.mono ?_
      rintro e w8 ⟨vp, rfl, hb8, hown8⟩
      have hz8 := hb8.size
      have hB8 := HB5.out.below hb8
      obtain ⟨⟨_, _, _, _, e4⟩, _, f4⟩ := HCS.out _ _ _ _ _ _ hB8 (List.mem_cons_self ..)
      have hdX : ∀ p ∈ [(X, xCs t (.slice A7 m c7), 28), (w.heap.size + 1, xCs ⟨#[]⟩ (.slice none 0 0), 28), (w.heap.size, xCs t (.slice (some ⟨b, off, none⟩) L c), 28)], p.1 ≠ Y := fun p hp => by
        simp only [List.mem_cons, List.not_mem_nil, or_false] at hp
        rcases hp with rfl | rfl | rfl <;> (dsimp only; omega)
      have HU7 := Lib.hid (innSet (i := 4) (z := vp) (HB5.out.fresh hz8 (hown8.sliF (enc := Para.cells) (hn := fun _ => rfl) (fun g e => hown8.block g e))))
      have HB7 := Lib.hid (hB8.set (i := 4) vp hdX)
      obtain ⟨A6, c6, hv6, _, _⟩ := (hown8.sliF (enc := Para.cells) (hn := fun _ => rfl) (F := fun _ => True) (fun _ _ => trivial)).form
      subst hv6
      obtain ⟨pl, hpl2⟩ : ∃ pl, partS x.paras nm = pl := ⟨_, rfl⟩
      rw [hpl2] at HE HB7 HU7 ⊢
      obtain ⟨PL, hPL⟩ : ∃ PL, pl.length = PL := ⟨_, rfl⟩
      have HPLn := Lib.hid hPL
      rw [hPL] at HB7 HU7 ⊢
      clear hB8 hdX hown8 hb8 HPC HB5 s0 s1 s2 s3 s4 hpl2 hPL
      go_upto_region 14 with (fail)
      clear e4 f4
      generalize w8.setCell ⟨Y, 4, none⟩ (.slice A6 PL c6) = w9 at *
      have HB7 := Lib.hid (show BI w lk (.slice A7 m c7) [(Y, #[.string x.no, .int .i64 x.place, .string x.set, .int .i64 tm, .slice A6 PL c6], 71), (X, xCs t (.slice A7 m c7), 28), (w.heap.size + 1, xCs ⟨#[]⟩ (.slice none 0 0), 28), (w.heap.size, xCs t (.slice (some ⟨b, off, none⟩) L c), 28)] w9 from HB7.out)
      obtain ⟨⟨s0, s1, s2, s3, s4⟩, _⟩ := HCS.out _ _ _ _ _ _ HB7.out (List.mem_cons_self ..)
      obtain ⟨_, x1, _, _⟩ := HCV.out _ _ _ (.slice A7 m c7) _ HB7.out (by simp)
      have hz7 := HB7.out.bo.size
      have HCV2 := Lib.hid (fun (W : World) l v P (hW : BI w l v P W) (hP : (X, xCs t (.slice A7 m c7), 28) ∈ P) => show W.cell? ⟨X, 1, none⟩ = some (.slice A7 m c7) ∧ W.frozen? ⟨X, 1, none⟩ = false from ⟨(HCV.out W l v (.slice A7 m c7) P hW hP).2.1, (HCV.out W l v (.slice A7 m c7) P hW hP).2.2.2⟩)
      generalize hva : Value.slice A7 m c7 = va at *
      go_wp2_with (at_builtin; (refine wpList_pushB (R := svR) rfl _ _ _ rfl w.heap.size w.heap.size 71 i0 _ 72 Tryz.underlying26 hi0 hz0 hz1 hz2 rfl (by decide) _ va lk rfl (HB7.out.bo.own.alloc _) ((⟨x.no, x.place, x.set, tm, pl⟩, .slice A6 PL c6) : Scene × Value) _ rfl (oneC rfl) w9.heap.size _ _ (heap_alloc_new w9 _) rfl (by rw [HLK.out]; simp [maxLen]; omega) (by rw [HLK.out]; omega) (by simp; omega) ?_); rw [HLK.out]; intro g cap w10 hown10 hg10 hat10 hlt10; have G8 := BI.more (HB7.out.alloc _) hown10 hg10 rfl hat10 (((HU7.out.alloc _ (fun q hq => hq.2.1))).more fun q hq => ⟨hq.1, by have := hq.2.1; simp; omega, hq.2.2⟩); obtain ⟨x8, f8⟩ := HCV2.out _ _ _ _ G8 (by simp))
      go_roundw
      case rel => exact ⟨k + 1, lk ++ [(⟨x.no, x.place, x.set, tm, pl⟩, .slice A6 PL c6)], _, by omega, intNum, by rw [HE.out, List.map_append, HK.out]; rfl, Lib.hid ((G8.less (Q := [(X, xCs t va, 28), (w.heap.size + 1, xCs ⟨#[]⟩ (.slice none 0 0), 28), (w.heap.size, xCs t (.slice (some ⟨b, off, none⟩) L c), 28)]) (by simp)).set (i := 1) _ (by
        intro p hp
        simp only [List.mem_cons, List.not_mem_nil, or_false] at hp
        rcases hp with rfl | rfl <;> (dsimp only; omega)))⟩
      case measure => simp [intOf]; omega
    · have HK2 := Lib.hid (show lk.map (·.1) = sidS (ls.map (·.1)) nm by unfold sidS; rw [HK.out, List.length_map, HL.out, show L = k by omega])
      obtain ⟨x0, x1, _, _⟩ := HCV.out _ _ _ (.slice A7 m c7) _ HG.out (by simp)
      obtain ⟨y0, y1, f0, f1⟩ := HCR.out _ _ _ _ HG.out (by simp)
      have HEM := Lib.hid (show (sidS (ls.map (·.1)) nm).isEmpty = decide (m = 0) by
        rw [← HK2.out, ← HLK.out]
        cases lk <;> simp)
      by_cases h0 : m = 0
      · have q0 : ((m : Int) == 0) = true := beq_iff_eq.2 (by omega)
        have HNN := Lib.hid (HNIL.out wr HG.out.bo.bel 8 (by rw [HSE.out, HEM.out, decide_eq_true h0]; rfl) (by decide))
        clear HNIL h0
        go_wp2
        refine ⟨rfl, .tuple #[.agg (xCs ⟨#[]⟩ (.slice none 0 0)), .int .i64 8], (by rw [results_cell_tmp rfl]; go_simp; rfl), ?_⟩
        exact HNN.out
      · have q0 : ((m : Int) == 0) = false := beq_eq_false_iff_ne.2 (by omega)
        have HSZ := Lib.hid (show sidE ⟨t, ls.map (·.1)⟩ nm = 0 by rw [HSE.out, HEM.out, decide_eq_false h0]; rfl)
        have HF := Lib.hid (((HG.out.less (Q := [(w.heap.size + 1, xCs ⟨#[]⟩ (.slice none 0 0), 28)]) (by simp)).set (i := 0) (.string t) (by simp)).set (i := 1) (.slice A7 m c7) (by simp))
        clear HNIL h0 HG
        go_wp2
        refine ⟨rfl, .tuple #[.agg (xCs t (.slice A7 m c7)), .int .i64 0], (by rw [results_cell_tmp rfl]; go_simp; rfl), ?_⟩
        exact ⟨t, lk, _, 0, rfl, HF.out.less (by simp), HSZ.out, fun _ => ⟨rfl, HK2.out⟩⟩
end Go.Proofs.YtkhegeobdcemkaaGreatDoor

