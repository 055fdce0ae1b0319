/- Texts packed: SoW. -/
import Derived.Test.YtkhegeobdcemkaaGreatDoorSd40
import Derived.Test.YtkhegeobdcemkaaGreatDoorSd37
import Derived.Test.YtkhegeobdcemkaaGreatDoorSd01
/- R.SidesOf, walked. -/
namespace Go.Proofs.YtkhegeobdcemkaaGreatDoor
set_option linter.unusedVariables false
open Go.RowKit Go.Sort

def SfP (x : Script) (nm : ByteArray) (w : World) (e : Ending) (w' : World) : Prop := ∃ (l : List (Scene × Value)) (v : Value), e = .returned (.tuple #[.agg (xCs x.title v), .bool (!(sidS x.scenes nm).isEmpty)]) ∧ BI w l v [] w' ∧ l.map (·.1) = sidS x.scenes nm
set_option maxRecDepth 100000 in
set_option maxHeartbeats 8000000 in
theorem SidesOf_c {F : Nat → Prop} (t : ByteArray) (ls : List (Scene × Value)) (v : Value) (nm : ByteArray) (w : World) (h : Sc2 w F ls v) (hB : FdB (ls.map (·.1))) (hr : ∀ x ∈ ls.map (·.1), RtP x.paras) (hno : ∀ y ∈ (ls.map (·.1))[0]?, ¬ y.time = 5) (hnb : nameB nm = true) :
    Calls Tryz.prog 25 #[.agg #[.string t, v], .string nm] w (SfP ⟨t, ls.map (·.1)⟩ nm w) := by
  obtain ⟨i0, hi0, hz0, hz1, hz2⟩ := info_parts (show (Tryz.prog.info? 71).map (fun i => (i.zero, i.size, i.bytes)) = some (some (.agg #[.string ⟨#[]⟩, .int .i64 0, .string ⟨#[]⟩, .int .i64 0, .slice none 0 0]), 5, 72) by kernel_rfl)
  obtain ⟨i1, hi1, hy0, hy1, hy2⟩ := info_parts (show (Tryz.prog.info? 78).map (fun i => (i.zero, i.size, i.bytes)) = some (some (.agg #[.int .i64 0, .string ⟨#[]⟩]), 2, 24) by kernel_rfl)
  obtain ⟨A, c, rfl, hlc, hcm⟩ := h.sli.form
  obtain ⟨L, hL⟩ : ∃ L, ls.length = L := ⟨_, rfl⟩
  have HL := Lib.hid hL
  have hl : L ≤ 1000 := by have := hB.1; rw [List.length_map] at this; omega
  have HBB := Lib.hid hB.2
  have HRT := Lib.hid hr
  have HNE := Lib.hid (name_ne hnb)
  have hnz := name_sz hnb
  have hnw := name_words hnb
  rw [hL] at h hlc ⊢
  have H := Lib.hid h
  have HNO := Lib.hid hno
  clear h hL hB hr hno hnb
  go_enter Tryz.func25, Tryz.ntmps25
  go_upto_region 1 with (fail)
  have hG : BI w [] (.slice none 0 0) [(w.heap.size + 2, xCs ⟨#[]⟩ (.slice none 0 0), 28), (w.heap.size + 1, #[.string nm], 9), (w.heap.size, xCs t (.slice A L c), 28)] (((w.alloc (.cells (xCs t (.slice A L c)) 28)).alloc (.cells #[.string nm] 9)).alloc (.cells (xCs ⟨#[]⟩ (.slice none 0 0)) 28)) := by
    have h := (((BI.start w).new (xCs t (.slice A L c)) 28).new #[.string nm] 9).new (xCs ⟨#[]⟩ (.slice none 0 0)) 28
    rw [show ((w.alloc (.cells (xCs t (.slice A L c)) 28)).alloc (.cells #[.string nm] 9)).heap.size = w.heap.size + 2 by simp, show (w.alloc (.cells (xCs t (.slice A L c)) 28)).heap.size = w.heap.size + 1 by simp] at h
    exact h
  generalize hW : ((w.alloc (.cells #[.string t, .slice A L c] 28)).alloc (.cells #[.string nm] 9)).alloc (.cells #[.string ⟨#[]⟩, .slice none 0 0] 28) = w1
  have G1 := Lib.hid (show BI w [] (.slice none 0 0) [(w.heap.size + 2, xCs ⟨#[]⟩ (.slice none 0 0), 28), (w.heap.size + 1, #[.string nm], 9), (w.heap.size, xCs t (.slice A L c), 28)] w1 by rw [← hW]; exact hG)
  clear hG hW
  have HCX := Lib.hid (fun (W : World) l v P (hW : BI w l v P W) (hP : (w.heap.size, xCs t (.slice A L c), 28) ∈ P) => show W.cell? ⟨w.heap.size, 0, none⟩ = some (.string t) ∧ W.cell? ⟨w.heap.size, 1, none⟩ = some (.slice A L c) by
    obtain ⟨gx, _⟩ := hW.cell hP
    exact ⟨gx 0, gx 1⟩)
  have HCN := Lib.hid (fun (W : World) l v P (hW : BI w l v P W) (hP : (w.heap.size + 1, #[.string nm], 9) ∈ P) => show W.cell? ⟨w.heap.size + 1, 0, none⟩ = some (.string nm) by
    obtain ⟨gx, _⟩ := hW.cell hP
    exact gx 0)
  have HCR := Lib.hid (fun (W : World) l v P (hW : BI w l v P W) (hP : (w.heap.size + 2, xCs ⟨#[]⟩ (.slice none 0 0), 28) ∈ P) => show W.cell? ⟨w.heap.size + 2, 0, none⟩ = some (.string ⟨#[]⟩) ∧ W.cell? ⟨w.heap.size + 2, 1, none⟩ = some (.slice none 0 0) ∧ W.frozen? ⟨w.heap.size + 2, 0, none⟩ = false ∧ W.frozen? ⟨w.heap.size + 2, 1, none⟩ = false by
    obtain ⟨gx, gf⟩ := hW.cell hP
    exact ⟨gx 0, gx 1, gf 0, gf 1⟩)
  obtain ⟨d0, d1⟩ := HCX.out _ _ _ _ G1.out (by simp)
  have G3 := G1.out.new (xCs t (.slice none 0 0)) 28
  have hX2 : w.heap.size + 2 < w1.heap.size := G1.out.bo.plt (p := (w.heap.size + 2, xCs ⟨#[]⟩ (.slice none 0 0), 28)) (by simp)
  go_upto_region 2 with (fail)
  generalize hW : w1.alloc (.cells #[.string t, .slice none 0 0] 28) = w3
  have G3 := Lib.hid (show BI w [] (.slice none 0 0) [(w1.heap.size, xCs t (.slice none 0 0), 28), (w.heap.size + 2, xCs ⟨#[]⟩ (.slice none 0 0), 28), (w.heap.size + 1, #[.string nm], 9), (w.heap.size, xCs t (.slice A L c), 28)] w3 by rw [← hW]; exact G3)
  clear hW G1 d0 d1
  have hX3 : w1.heap.size < w3.heap.size := G3.out.bo.plt (p := (w1.heap.size, xCs t (.slice none 0 0), 28)) (by simp)
  generalize w1.heap.size = X at *
  obtain ⟨d0, d1⟩ := HCX.out _ _ _ _ G3.out (by simp)
  have HTM := Lib.hid (TimesOf_c t ls (.slice A L c) w3 (by
    have h := H.out.below G3.out.bo.bel
    exact ⟨h.sli, h.par, h.lt⟩) (by rw [HL.out]; exact hl) HNO.out)
  have HLm := Lib.hid (show (ls.map (·.1)).length = L by rw [List.length_map]; exact HL.out)
  clear HNO
  go_wp2_with fail
  refine HTM.out.mono ?_
  rintro e w4 ⟨vt, rfl, hownt, hb4⟩
  rw [HLm.out] at hownt
  obtain ⟨PT, hG4, hPT, hTS⟩ := BI.keepNew (enc2 := fun x : Int => [.int .i64 x]) (hm := fun _ => rfl) G3.out hb4 hownt
  obtain ⟨Q, hQ⟩ : ∃ Q, PT ++ [(w.heap.size + 2, xCs ⟨#[]⟩ (.slice none 0 0), 28), (w.heap.size + 1, #[.string nm], 9), (w.heap.size, xCs t (.slice A L c), 28)] = Q := ⟨_, rfl⟩
  have HQ1 := Lib.hid (show (w.heap.size, xCs t (.slice A L c), 28) ∈ Q by rw [← hQ]; simp)
  have HQ2 := Lib.hid (show (w.heap.size + 1, #[.string nm], 9) ∈ Q by rw [← hQ]; simp)
  have HQ3 := Lib.hid (show (w.heap.size + 2, xCs ⟨#[]⟩ (.slice none 0 0), 28) ∈ Q by rw [← hQ]; simp)
  have HQX := Lib.hid (show ∀ p ∈ Q, p.1 ≠ X from fun p hp => by
    rw [← hQ] at hp
    rcases List.mem_append.1 hp with hp | hp
    · have := hPT p hp; omega
    · simp only [List.mem_cons, List.not_mem_nil, or_false] at hp
      rcases hp with rfl | rfl | rfl <;> (dsimp only; omega))
  have G4 := Lib.hid (show BI w [] (.slice none 0 0) ((X, xCs t (.slice none 0 0), 28) :: Q) w4 from hG4.less (fun p hp => by
    rw [← hQ] at hp
    simp only [List.mem_cons, List.mem_append, List.not_mem_nil, or_false] at hp ⊢
    rcases hp with h | h | h | h | h <;> simp [h]))
  have HTS := Lib.hid (fun (W : World) l v' P' (hW : BI w l v' P' W) (hP : ∀ p ∈ Q, p ∈ P') => show Sli intR W (fun q => vt.ownBlock = some q) (tmS (ls.map (·.1)) L) vt ∧ ∀ q, vt.ownBlock = some q → q < W.heap.size from hTS W l v' P' hW (fun p hp => hP p (by rw [← hQ]; simp [hp])))
  obtain ⟨ht1, _⟩ := HTS.out _ _ _ _ G4.out (fun p hp => by simp [hp])
  obtain ⟨At, ct, hvt, _, _⟩ := ht1.form
  rw [tmS_len] at hvt
  subst hvt
  clear hG4 hPT hTS hQ ht1 hb4 hownt HTM d0 d1 G3
  obtain ⟨d0, d1⟩ := HCX.out _ _ _ _ G4.out (by simp [HQ1.out])
  have HCV := Lib.hid (fun (W : World) l v u P (hW : BI w l v P W) (hP : (X, xCs t u, 28) ∈ P) => show W.cell? ⟨X, 0, none⟩ = some (.string t) ∧ W.cell? ⟨X, 1, none⟩ = some u ∧ W.frozen? ⟨X, 0, none⟩ = false ∧ W.frozen? ⟨X, 1, none⟩ = false by
    obtain ⟨gx, gf⟩ := hW.cell hP
    exact ⟨gx 0, gx 1, gf 0, gf 1⟩)
  go_wp2
  go_loopw [23] (fun i wr => ∃ (k : Nat) (lk : List (Scene × Value)) (vk : Value), k ≤ L ∧ i = .int .i64 k ∧ Hid (lk.map (·.1) = sidN (ls.map (·.1)) nm k) ∧ Hid (BI w lk vk ((X, xCs t vk, 28) :: Q) wr)) (fun i _ => L - (intOf i).toNat)
  case atStart => exact ⟨0, [], .slice none 0 0, Nat.zero_le _, rfl, rfl, G4⟩
  case round =>
    clear G4 d0 d1
    obtain ⟨k, lk, vk, hk, rfl, HK, HG⟩ := hrel
    have hlk : lk.length ≤ k := by have h1 := congrArg List.length HK.out; rw [List.length_map] at h1; have := sidN_len (ls.map (·.1)) nm k; omega
    obtain ⟨A7, c7, hv7, _, _⟩ := (HG.out.bo.own.sliF (enc := fun x : Scene × Value => x.1.cells x.2) (hn := fun _ => rfl) (F := fun _ => True) (fun _ _ => trivial)).form
    obtain ⟨m, hm⟩ : ∃ m, lk.length = m := ⟨_, rfl⟩
    have HLK := Lib.hid hm
    rw [hm] at hv7 hlk
    subst hv7
    clear hm
    by_cases hlt : k < L
    · have hk2 : k < ls.length := by rw [HL.out]; exact hlt
      have hS : Sc2 wr F ls (.slice A L c) := by
        have h := H.out.below HG.out.bo.bel
        exact ⟨h.sli, h.par, h.lt⟩
      obtain ⟨b, off, rfl, hfb, a0, a1, a2, a3, a4⟩ := scAt hS.sli k hk2
      have hltb : b < wr.heap.size := hS.lt b hfb
      have hmem := List.getElem_mem hk2
      have hpk : ∀ W, Below w.heap.size w W → Sli paraR W F (ls[k]'hk2).1.paras (ls[k]'hk2).2 := fun W hb => (H.out.below hb).par _ hmem
      obtain ⟨A4, cc4, h4, _, _⟩ := (hS.par _ hmem).form
      have hkm : k < (ls.map (·.1)).length := by rw [List.length_map]; exact hk2
      have hgm : (ls.map (·.1))[k]'hkm = (ls[k]'hk2).1 := List.getElem_map ..
      have hyes := fun h => sidN_yes (xs := ls.map (·.1)) (nm := nm) hkm h
      have hno := fun h => sidN_no (xs := ls.map (·.1)) (nm := nm) hkm h
      have hbd := HBB.out _ (List.getElem_mem hkm)
      have hrt := HRT.out _ (List.getElem_mem hkm)
      rw [hgm] at hyes hno hbd hrt
      rw [h4] at a4 hpk
      clear h4 hmem hgm hkm
      generalize (ls[k]'hk2).1 = x at *
      have HYES := Lib.hid hyes
      have HNO := Lib.hid hno
      have HBD := Lib.hid hbd.2
      have hpl := hbd.1
      have HRP := Lib.hid hrt
      have HPK := Lib.hid hpk
      have HLT := Lib.hid (show ∀ q, F q → q < w.heap.size from H.out.lt)
      obtain ⟨M, hM⟩ : ∃ M, x.paras.length = M := ⟨_, rfl⟩
      have HMP := Lib.hid hM
      have HB1 := Lib.hid (HG.out.new #[.string x.no, .int .i64 x.place, .string x.set, .int .i64 x.time, .slice A4 M cc4] 71)
      have hpX : X < wr.heap.size := HG.out.bo.plt (p := (X, xCs t (.slice A7 m c7), 28)) (by simp)
      have hpR : w.heap.size + 2 < wr.heap.size := HG.out.bo.plt (p := (w.heap.size + 2, xCs ⟨#[]⟩ (.slice none 0 0), 28)) (by simp [HQ3.out])
      rw [hM] at a4 HPK hpl
      clear hk2 hyes hno hbd hrt hpk hS hM HG
      go_upto_region 6 with (fail)
      generalize hW : wr.alloc (.cells #[.string x.no, .int .i64 x.place, .string x.set, .int .i64 x.time, .slice A4 M cc4] 71) = w5 at *
      have hY5 : wr.heap.size < w5.heap.size := HB1.out.bo.plt (p := (wr.heap.size, #[.string x.no, .int .i64 x.place, .string x.set, .int .i64 x.time, .slice A4 M cc4], 71)) (by simp)
      generalize wr.heap.size = Y at *
      have HCS := Lib.hid (fun (W : World) l v P (hW : BI w l v P W) (hP : (Y, #[.string x.no, .int .i64 x.place, .string x.set, .int .i64 x.time, .slice A4 M cc4], 71) ∈ P) => show W.cell? ⟨Y, 0, none⟩ = some (.string x.no) ∧ W.cell? ⟨Y, 1, none⟩ = some (.int .i64 x.place) ∧ W.cell? ⟨Y, 2, none⟩ = some (.string x.set) ∧ W.cell? ⟨Y, 3, none⟩ = some (.int .i64 x.time) ∧ W.cell? ⟨Y, 4, none⟩ = some (.slice A4 M cc4) by
        obtain ⟨gx, gf⟩ := hW.cell hP
        exact ⟨gx 0, gx 1, gx 2, gx 3, gx 4⟩)
      obtain ⟨s0, s1, s2, s3, s4⟩ := HCS.out _ _ _ _ HB1.out (List.mem_cons_self ..)
      have hlt5 : ∀ q, F q → q < w5.heap.size := fun q hq => Nat.lt_of_lt_of_le (HLT.out q hq) HB1.out.bo.bel.size
      have HGO := Lib.hid (show Calls Tryz.prog _ #[.agg #[.string x.no, .int .i64 x.place, .string x.set, .int .i64 x.time, .slice A4 M cc4]] w5 _ from groupsOf_c x (.slice A4 M cc4) w5 (HPK.out w5 HB1.out.bo.bel) hlt5 (by rw [HMP.out]; exact hpl) HRP.out)
      clear hW a0 a1 a2 a3 a4 hlt5 hltb
      go_wp2_with fail
      refine HGO.out.mono ?_
      rintro e w6 ⟨vg, rfl, hb6, hown6⟩
      have HB2 := Lib.hid (HB1.out.below hb6)
      have HGS := Lib.hid (hown6.sliF (F := fun q => q < w6.heap.size) (enc := fun x : Grp => [.int .i64 (x.1 : Int), .int .i64 (x.2.1 : Int), .string x.2.2]) (hn := fun _ => rfl) (fun g hg => (hown6.block g hg).2))
      have HCH := Lib.hid (grpS_ch HRP.out)
      have HANY := Lib.hid (grpS_any x.paras HNE.out)
      have HPS := Lib.hid (show partS x.paras nm = partN x.paras nm (grpS x.paras) (grpS x.paras).length from rfl)
      obtain ⟨Ag, cg, hvg, _, _⟩ := HGS.out.form
      obtain ⟨gs, hgs⟩ : ∃ gs, grpS x.paras = gs := ⟨_, rfl⟩
      rw [hgs] at HGS HCH HANY HPS hvg
      obtain ⟨K, hK⟩ : ∃ K, gs.length = K := ⟨_, rfl⟩
      have HKL := Lib.hid hK
      have hKM : K ≤ M := by have := HCH.out.len; rw [HMP.out, hK] at this; exact this
      rw [hK] at hvg HPS
      rw [hvg] at HGS
      rw [hvg]
      have n0 := HCN.out _ _ _ _ HB2.out (by simp [HQ2.out])
      have hN6 : w.heap.size + 1 < w6.heap.size := by have := hb6.size; omega
      have HCF := Lib.hid (contGrp_c gs (.slice Ag K cg) 73 #[.pointer (some ⟨w.heap.size + 1, 0, none⟩)] (fun y => decide (y.2.2 = nm)) w6 HGS.out (fun q hq => hq) (by rw [HKL.out]; omega) (sides1_p nm (w.heap.size + 1) w6 n0 hN6))
      rw [HANY.out] at HCF
      clear hvg hgs hK hb6 hown6 HGO HB1 s0 s1 s2 s3 s4 n0 HANY
      go_wp2_with fail
      refine HCF.out.mono ?_
      rintro e w7 ⟨rfl, hb7⟩
      have HB3 := Lib.hid (HB2.out.below hb7)
      have HGS := Lib.hid ((HGS.out.below hb7 (fun q hq => hq)).more (G := fun q => q < w7.heap.size) fun q hq => Nat.lt_of_lt_of_le hq hb7.size)
      have hY7 : Y < w7.heap.size := HB3.out.bo.plt (p := (Y, #[.string x.no, .int .i64 x.place, .string x.set, .int .i64 x.time, .slice A4 M cc4], 71)) (by simp)
      clear hb7 HB2 HCF hN6
      cases hcb : hcB x.paras nm with
      | false =>
        have HE := Lib.hid (HNO.out hcb)
        clear hcb HYES HNO
        go_wp2
        go_roundw
        case rel => exact ⟨k + 1, lk, _, by omega, intNum, by rw [HE.out]; exact HK, Lib.hid (HB3.out.less (fun p hp => List.mem_cons_of_mem _ hp))⟩
        case measure => simp [intOf]; omega
      | true =>
      obtain ⟨em, hem⟩ : ∃ em, (sidN (ls.map (·.1)) nm k).isEmpty = em := ⟨_, rfl⟩
      have HEM := Lib.hid (show em = decide (m = 0) by
        rw [← hem, ← HK.out, ← HLK.out]
        cases lk <;> simp)
      obtain ⟨tm, htm⟩ : ∃ tm, (if em = true then tmAt (ls.map (·.1)) k else x.time) = tm := ⟨_, rfl⟩
      have HTMV := Lib.hid htm
      have HE := Lib.hid (show sidN (ls.map (·.1)) nm (k + 1) = sidN (ls.map (·.1)) nm k ++ [⟨x.no, x.place, x.set, tm, partS x.paras nm⟩] by
        rw [HYES.out hcb, hem]
        unfold sidOne
        rw [htm])
      clear hcb hem htm HYES HNO
      obtain ⟨s0, s1, s2, s3, s4⟩ := HCS.out _ _ _ _ HB3.out (List.mem_cons_self ..)
      have GY := (BM.start (n := 2) (enc := Para.cells) (hn := fun _ => rfl) (e := 78) w7).new #[.string x.no, .int .i64 x.place, .string x.set, .int .i64 x.time, .slice A4 M cc4] 71
      obtain ⟨Yy, hYy⟩ : ∃ Yy, w7.heap.size = Yy := ⟨_, rfl⟩
      have HYY := Lib.hid hYy
      rw [hYy] at GY HGS hY7
      go_upto_region 9 with (fail)
      generalize hW : w7.alloc (.cells #[.string x.no, .int .i64 x.place, .string x.set, .int .i64 x.time, .slice A4 M cc4] 71) = w8 at *
      obtain ⟨gx, gf⟩ := GY.cell (b := Yy) (cs := #[.string x.no, .int .i64 x.place, .string x.set, .int .i64 x.time, .slice A4 M cc4]) (T := 71) (by simp)
      have c4 : w8.cell? ⟨Yy, 4, none⟩ = some (.slice A4 M cc4) := gx 4
      have f4 : w8.frozen? ⟨Yy, 4, none⟩ = false := gf 4
      have GY2 := GY.set0 4 (.slice none 0 0) (by simp)
      clear hW gx gf GY s0 s1 s2 s3 s4 hYy
      go_upto_region 10 with (fail)
      have GY3 := Lib.hid (show PaG w7 (partN x.paras nm gs 0) (.slice none 0 0) [(Yy, cellsP #[.string x.no, .int .i64 x.place, .string x.set, .int .i64 x.time, .slice none 0 0] 71)] (w8.setCell ⟨Yy, 4, none⟩ (.slice none 0 0)) from GY2)
      clear GY2 c4 f4
      generalize w8.setCell ⟨Yy, 4, none⟩ (.slice none 0 0) = w9 at *
      have HIN := Lib.hid (fun (W : World) l u P (hW : PaG w7 l u P W) => show (W.cell? ⟨Y, 4, none⟩ = some (.slice A4 M cc4) ∧ W.cell? ⟨w.heap.size + 1, 0, none⟩ = some (.string nm)) ∧ Sli gpR W (fun q => q < Yy) gs (.slice Ag K cg) ∧ Sli paraR W F x.paras (.slice A4 M cc4) ∧ Yy ≤ W.heap.size by
        have hb := HB3.out.below hW.bel
        have hz := hW.bel.size
        rw [HYY.out] at hz
        exact ⟨⟨(HCS.out _ _ _ _ hb (List.mem_cons_self ..)).2.2.2.2, HCN.out _ _ _ _ hb (by simp [HQ2.out])⟩, HGS.out.keep (fun q hq => hW.bel.block q (by rw [HYY.out]; exact hq)), HPK.out W hb.bo.bel, hz⟩)
      have HCYy := Lib.hid (fun (W : World) l u' u P (hW : PaG w7 l u' P W) (hP : (Yy, cellsP #[.string x.no, .int .i64 x.place, .string x.set, .int .i64 x.time, u] 71) ∈ P) => show (W.cell? ⟨Yy, 0, none⟩ = some (.string x.no) ∧ W.cell? ⟨Yy, 1, none⟩ = some (.int .i64 x.place) ∧ W.cell? ⟨Yy, 2, none⟩ = some (.string x.set) ∧ W.cell? ⟨Yy, 3, none⟩ = some (.int .i64 x.time) ∧ W.cell? ⟨Yy, 4, none⟩ = some u) ∧ (W.frozen? ⟨Yy, 3, none⟩ = false ∧ W.frozen? ⟨Yy, 4, none⟩ = false) by
        obtain ⟨gx, gf⟩ := hW.cell hP
        exact ⟨⟨gx 0, gx 1, gx 2, gx 3, gx 4⟩, gf 3, gf 4⟩)
      go_wp2
      go_loopw [38] (fun i wr => ∃ (j : Nat) (u : Value), j ≤ K ∧ i = .int .i64 j ∧ Hid (PaG w7 (partN x.paras nm gs j) u [(Yy, cellsP #[.string x.no, .int .i64 x.place, .string x.set, .int .i64 x.time, u] 71)] wr)) (fun i _ => K - (intOf i).toNat)
      case atStart => exact ⟨0, _, Nat.zero_le _, rfl, GY3⟩
      case round =>
        clear GY3
        obtain ⟨j, u, hj, rfl, HG⟩ := hrel
        by_cases hlj : j < K
        · have hj2 : j < gs.length := by rw [HKL.out]; exact hlj
          obtain ⟨_, hsl, hpa, hzY⟩ := HIN.out _ _ _ _ HG.out
          obtain ⟨bg, offg, rfl, hbg, g0, g1, g2⟩ := gp_at hsl j hj2
          have hgo := HCH.out.ok _ (List.getElem_mem hj2)
          have HYE := Lib.hid (fun h => partN_yes (ps := x.paras) (nm := nm) hj2 h)
          have HNN := Lib.hid (fun h => partN_no (ps := x.paras) (nm := nm) hj2 h)
          generalize (gs[j]'hj2) = gp at *
          obtain ⟨a, b2, nmg⟩ := gp
          dsimp only at g0 g1 g2 HYE HNN
          have hlt2 := hgo.lt
          have hle2 := hgo.le
          dsimp only at hlt2 hle2
          rw [HMP.out] at hle2
          have hap : a < x.paras.length := by rw [HMP.out]; omega
          obtain ⟨b4, off4, rfl, hfb4, _, _⟩ := para_at hpa a hap
          have htx := HBD.out _ (List.getElem_mem hap)
          have HND1 := Lib.hid (show nmg = ⟨#[]⟩ → needB x.paras nm gs j (a, b2, nmg) = nmdB (x.paras[a]'hap).text nm from fun e => by
            unfold needB txtAt
            rw [if_pos e, List.getElem?_eq_getElem hap]
            rfl)
          have HND2 := Lib.hid (show ¬ nmg = ⟨#[]⟩ → needB x.paras nm gs j (a, b2, nmg) = (decide (nmg = nm) || nxtB gs nm (j + 1)) from fun e => by
            unfold needB
            rw [if_neg e])
          have hbY : b4 < Yy := by
            have h1 := HLT.out b4 hfb4
            have h2 := HB3.out.bo.bel.size
            rw [HYY.out] at h2
            omega
          have HPAT := Lib.hid (fun (W : World) l u' P (hW : PaG w7 l u' P W) => show W.cell? ⟨b4, off4 + a * 2 + 1, none⟩ = some (.string (x.paras[a]'hap).text) by
            obtain ⟨_, _, hp, _⟩ := HIN.out W l u' P hW
            obtain ⟨b', off', hbb, _, _, p1⟩ := para_at hp a hap
            injection hbb with h
            injection h with h1 h2
            subst h1
            subst h2
            exact p1)
          generalize (x.paras[a]'hap) = pa at *
          have GZ := Lib.hid (HG.out.new #[.int .i64 (a : Int), .int .i64 (b2 : Int), .string nmg] 88)
          have hai : (a : Int) < (M : Int) := by omega
          have hbw : bg < wr.heap.size := by omega
          clear hsl hpa hj2 hgo HG hap
          go_upto_region 13 with (fail)
          generalize hW : wr.alloc (.cells #[.int .i64 (a : Int), .int .i64 (b2 : Int), .string nmg] 88) = w10 at *
          have hZ10 := (GZ.out.plt (b := wr.heap.size) (List.mem_cons_self ..)).2
          generalize wr.heap.size = Z at *
          have HCZ := Lib.hid (fun (W : World) l u' P (hW : PaG w7 l u' P W) (hm : (Z, cellsP #[.int .i64 (a : Int), .int .i64 (b2 : Int), .string nmg] 88) ∈ P) => show W.cell? ⟨Z, 0, none⟩ = some (.int .i64 (a : Int)) ∧ W.cell? ⟨Z, 1, none⟩ = some (.int .i64 (b2 : Int)) ∧ W.cell? ⟨Z, 2, none⟩ = some (.string nmg) from ⟨(hW.cell hm).1 0, (hW.cell hm).1 1, (hW.cell hm).1 2⟩)
          clear hW g0 g1 g2
          obtain ⟨z0, z1, z2⟩ := HCZ.out _ _ _ _ GZ.out (List.mem_cons_self ..)
          obtain ⟨⟨s4, n0⟩, hsl, _, _⟩ := HIN.out _ _ _ _ GZ.out
          go_cut [14] (fun v wx => v = .bool (decide (nmg = nm) || (!decide (nmg = ⟨#[]⟩) && nxtB gs nm (j + 1))) ∧ Hid (PaG w7 (partN x.paras nm gs j) u [(Z, cellsP #[.int .i64 (a : Int), .int .i64 (b2 : Int), .string nmg] 88), (Yy, cellsP #[.string x.no, .int .i64 x.place, .string x.set, .int .i64 x.time, u] 71)] wx))
          case first =>
            clear HYE HNN HND1 HND2 s4
            have HGE := Lib.hid (fun n : Nat => GZ.out.below (below_drewN (Below.refl _ _) n))
            by_cases q1 : nmg = nm
            · have q1b : (nmg.toList == nm.toList) = true := (beqS _ _).trans (decide_eq_true q1)
              have HOW := Lib.hid (show (decide (nmg = nm) || (!decide (nmg = ⟨#[]⟩) && nxtB gs nm (j + 1))) = true by rw [decide_eq_true q1]; rfl)
              clear q1 hsl
              go_wp2
              go_quiet (fail)
              go_wp2
              go_meet
              exact ⟨by rw [HOW.out], by first | exact GZ | exact Lib.hid GZ.out.drew | exact Lib.hid (HGE.out _)⟩
            · have q1b : (nmg.toList == nm.toList) = false := (beqS _ _).trans (decide_eq_false q1)
              by_cases q2 : nmg = ⟨#[]⟩
              · have q2b : nmg.toList.isEmpty = true := (empty_iff nmg).2 q2
                have HOW := Lib.hid (show (decide (nmg = nm) || (!decide (nmg = ⟨#[]⟩) && nxtB gs nm (j + 1))) = false by rw [decide_eq_false q1, decide_eq_true q2]; rfl)
                clear q1 q2 hsl
                go_wp2
                go_quiet (fail)
                go_wp2
                go_meet
                exact ⟨by rw [HOW.out], by first | exact GZ | exact Lib.hid GZ.out.drew | exact Lib.hid (HGE.out _)⟩
              · have q2b : nmg.toList.isEmpty = false := Bool.eq_false_iff.2 (fun h => q2 ((empty_iff nmg).1 h))
                have HOW := Lib.hid (show (decide (nmg = nm) || (!decide (nmg = ⟨#[]⟩) && nxtB gs nm (j + 1))) = nxtB gs nm (j + 1) by rw [decide_eq_false q1, decide_eq_false q2]; simp)
                have ew : IntKind.i64.wrap ((j : Int) + 1) = (j : Int) + 1 := IntWalk.i64_in _ (by omega)
                clear q1 q2
                by_cases hj1 : j + 1 < K
                · have hj2 : j + 1 < gs.length := by rw [HKL.out]; exact hj1
                  have hj1I : (j : Int) + 1 < (K : Int) := by omega
                  have hj1N : ((j : Int) + 1).toNat = j + 1 := by omega
                  have hj0I : (0 : Int) ≤ (j : Int) + 1 := by omega
                  obtain ⟨bg', offg', hbb, hq1, hq2, hq3, g2⟩ := gp_at hsl (j + 1) hj2
                  obtain ⟨rfl, rfl⟩ : bg = bg' ∧ offg = offg' := by injection hbb with h; injection h with h1 h2; exact ⟨h1, h2⟩
                  have HNX := Lib.hid (show nxtB gs nm (j + 1) = decide ((gs[j + 1]'hj2).2.2 = nm) by unfold nxtB; rw [List.getElem?_eq_getElem hj2])
                  clear hq1 hq2 hq3
                  generalize (gs[j + 1]'hj2).2.2 = s2 at *
                  clear hj2 hbb hsl
                  cases hs2 : decide (s2 = nm) with
                  | true =>
                    have q3 : (s2.toList == nm.toList) = true := (beqS _ _).trans hs2
                    have HR := Lib.hid (HNX.out.trans hs2)
                    clear hs2
                    go_wp2
                    go_quiet (fail)
                    go_wp2
                    go_meet
                    exact ⟨by rw [HOW.out, HR.out], by first | exact GZ | exact Lib.hid GZ.out.drew | exact Lib.hid (HGE.out _)⟩
                  | false =>
                    have q3 : (s2.toList == nm.toList) = false := (beqS _ _).trans hs2
                    have HR := Lib.hid (HNX.out.trans hs2)
                    clear hs2
                    go_wp2
                    go_quiet (fail)
                    go_wp2
                    go_meet
                    exact ⟨by rw [HOW.out, HR.out], by first | exact GZ | exact Lib.hid GZ.out.drew | exact Lib.hid (HGE.out _)⟩
                · have HR := Lib.hid (show nxtB gs nm (j + 1) = false by unfold nxtB; rw [List.getElem?_eq_none (by rw [HKL.out]; omega)])
                  have hj1I : ¬ (j : Int) + 1 < (K : Int) := by omega
                  have hj1B : decide ((j : Int) + 1 < (K : Int)) = false := decide_eq_false hj1I
                  clear hsl
                  go_wp2
                  go_quiet (fail)
                  go_wp2
                  go_meet
                  exact ⟨by rw [HOW.out, HR.out], by first | exact GZ | exact Lib.hid GZ.out.drew | exact Lib.hid (HGE.out _)⟩
          case rest =>
          clear z0 z1 z2 s4 n0 hsl GZ
          obtain ⟨rfl, G11⟩ := hcut
          obtain ⟨z0, z1, z2⟩ := HCZ.out _ _ _ _ G11.out (List.mem_cons_self ..)
          obtain ⟨eb, heb⟩ : ∃ eb, nmg.toList.isEmpty = eb := ⟨_, rfl⟩
          go_upto_if 71 with (fail)
          have HEB := Lib.hid heb
          clear heb
          go_cut [14] (fun v wx => v = .bool (needB x.paras nm gs j (a, b2, nmg)) ∧ Hid (PaG w7 (partN x.paras nm gs j) u [(Z, cellsP #[.int .i64 (a : Int), .int .i64 (b2 : Int), .string nmg] 88), (Yy, cellsP #[.string x.no, .int .i64 x.place, .string x.set, .int .i64 x.time, u] 71)] wx))
          case first =>
            clear HYE HNN
            cases eb with
            | true =>
              have HOW := Lib.hid (HND1.out ((empty_iff nmg).1 HEB.out))
              have hpt := HPAT.out _ _ _ _ G11.out
              obtain ⟨⟨s4, n0⟩, _, _, _⟩ := HIN.out _ _ _ _ G11.out
              have HSS := Lib.hid (fun (W : World) l u' P (hW : PaG w7 l u' P W) (hm : (Z, cellsP #[.int .i64 (a : Int), .int .i64 (b2 : Int), .string nmg] 88) ∈ P) => show W.cell? ⟨Y, 4, none⟩ = some (.slice (some ⟨b4, off4, none⟩) M cc4) ∧ W.cell? ⟨Z, 0, none⟩ = some (.int .i64 (a : Int)) ∧ W.cell? ⟨b4, off4 + a * 2 + 1, none⟩ = some (.string pa.text) ∧ W.cell? ⟨w.heap.size + 1, 0, none⟩ = some (.string nm) from
                ⟨(HIN.out W l u' P hW).1.1, (HCZ.out W l u' P hW hm).1, HPAT.out W l u' P hW, (HIN.out W l u' P hW).1.2⟩)
              obtain ⟨ι, ff, hne, hff, hfS⟩ := family (fun W => W.cell? ⟨Y, 4, none⟩ = some (.slice (some ⟨b4, off4, none⟩) M cc4) ∧ W.cell? ⟨Z, 0, none⟩ = some (.int .i64 (a : Int)) ∧ W.cell? ⟨b4, off4 + a * 2 + 1, none⟩ = some (.string pa.text) ∧ W.cell? ⟨w.heap.size + 1, 0, none⟩ = some (.string nm)) wc (HSS.out _ _ _ _ G11.out (List.mem_cons_self ..))
              have q0 := fun p => (hff p).1
              have q1 := fun p => (hff p).2.1
              have q3 := fun p => (hff p).2.2.1
              have q4 := fun p => (hff p).2.2.2
              have HFS := Lib.hid hfS
              have HWA := Lib.hid (WordsOf_c pa.text wc.drew (by omega))
              clear hpt s4 n0 HND1 HND2 z0 z1 hff hfS
              go_upto_region 15 with (fail)
              clear z2
              refine wp_region_segs3 [7, 9, 10, 11] [12, 13] [] [([0, 2], [1, 3, 4, 5, 6, 8], 7), ([], [], 9), ([], [], 10), ([], [], 11)] (by kernel_rfl) (by kernel_rfl) (fun _ _ _ dd _ h => by cases dd <;> exact h) (fun W => ∃ p : ι, W = ff p) (HFS.out _ (HSS.out _ _ _ _ G11.out.drew (List.mem_cons_self ..))) ?_
              refine wpSegs3_step (by simp only [pick, List.getElem?_cons_succ, List.getElem?_cons_zero]; rfl) (by simp only [pick, List.getElem?_cons_succ, List.getElem?_cons_zero]; rfl) rfl (fun K0 hK0 L0 hL0 => ?_)
              repeat (first | go_big_quiet_step (fail) | quiet_step (fail))
              refine wpQuiet_nil (hL0 _ ?_)
              repeat (first | go_big_quiet_step (fail) | quiet_step (fail))
              refine wpQuiet_nil ?_
              refine Or.inl ⟨by kernel_rfl, ?_⟩
              go_simp
              refine HWA.out.mono ?_
              rintro e w12 ⟨v12, rfl, hown12, hb12⟩
              have G12 := Lib.hid (G11.out.drew.below hb12)
              have HS12 := Lib.hid (hown12.sliF (F := fun q => q < w12.heap.size) (enc := fun x : ByteArray => [.string x]) (hn := fun _ => rfl) (fun g hg => (hown12.block g hg).2))
              have HWB := Lib.hid (WordsOf_c nm w12 (by omega))
              clear hown12 hb12 HWA
              refine hK0 (fun W => ∃ p : ι, W = ff p) _ _ (fun _ h => h) (HFS.out _ (HSS.out _ _ _ _ G12.out (List.mem_cons_self ..))) ?_
              refine wpSegs3_step (by simp only [pick, List.getElem?_cons_succ, List.getElem?_cons_zero]; rfl) (by simp only [pick, List.getElem?_cons_succ, List.getElem?_cons_zero]; rfl) rfl (fun K1 hK1 L1 hL1 => ?_)
              repeat (first | go_big_quiet_step (fail) | quiet_step (fail))
              refine wpQuiet_nil (hL1 _ ?_)
              repeat (first | go_big_quiet_step (fail) | quiet_step (fail))
              refine wpQuiet_nil ?_
              refine Or.inl ⟨by kernel_rfl, ?_⟩
              go_simp
              refine HWB.out.mono ?_
              rintro e w13 ⟨v13, rfl, hown13, hb13⟩
              have G13 := Lib.hid (G12.out.below hb13)
              have hwl := wordsT_len pa.text
              have hwl2 := wordsT_len nm
              have HBE := Lib.hid (beginnings_c (F := fun q => q < w13.heap.size) (wordsT pa.text) (wordsT nm) v12 v13 w13 ((HS12.out.below hb13 (fun q hq => hq)).more fun q hq => Nat.lt_of_lt_of_le hq hb13.size) (hown13.sliF (enc := fun x : ByteArray => [.string x]) (hn := fun _ => rfl) (fun g hg => (hown13.block g hg).2)) (fun q hq => hq) (by omega) (by omega) hnw)
              clear hown13 hb13 HWB G12 HS12
              refine hK1 (fun W => ∃ p : ι, W = ff p) _ _ (fun _ h => h) (HFS.out _ (HSS.out _ _ _ _ G13.out (List.mem_cons_self ..))) ?_
              refine wpSegs3_step (by simp only [pick, List.getElem?_cons_succ, List.getElem?_cons_zero]; rfl) (by simp only [pick, List.getElem?_cons_succ, List.getElem?_cons_zero]; rfl) rfl (fun K2 hK2 L2 hL2 => ?_)
              repeat (first | go_big_quiet_step (fail) | quiet_step (fail))
              refine wpQuiet_nil (hL2 _ ?_)
              repeat (first | go_big_quiet_step (fail) | quiet_step (fail))
              refine wpQuiet_nil ?_
              refine Or.inl ⟨by kernel_rfl, ?_⟩
              go_simp
              refine HBE.out.mono ?_
              rintro e w14 ⟨v14, rfl, hown14, hb14⟩
              have G14 := Lib.hid (G13.out.below hb14)
              obtain ⟨A14, c14, rfl, _, _⟩ := (hown14.sliF (F := fun _ => True) (enc := fun x : Int => [.int .i64 x]) (hn := fun _ => rfl) (fun _ _ => trivial)).form
              have HR := Lib.hid (nmd_eq pa.text nm)
              obtain ⟨fn, hfn⟩ : ∃ fn, (fndI (wordsT pa.text) (wordsT nm)).length = fn := ⟨_, rfl⟩
              rw [hfn] at HR ⊢
              clear hown14 hb14 hfn HBE G13
              refine hK2 (fun W => ∃ p : ι, W = ff p) _ _ (fun _ h => h) (HFS.out _ (HSS.out _ _ _ _ G14.out (List.mem_cons_self ..))) ?_
              refine wpSegs3_step (by simp only [pick, List.getElem?_cons_succ, List.getElem?_cons_zero]; rfl) (by simp only [pick, List.getElem?_cons_succ, List.getElem?_cons_zero]; rfl) rfl (fun K3 hK3 L3 hL3 => ?_)
              repeat (first | go_big_quiet_step (fail) | quiet_step (fail))
              refine wpQuiet_nil (hL3 _ ?_)
              repeat (first | go_big_quiet_step (fail) | quiet_step (fail))
              refine wpQuiet_nil ?_
              refine Or.inl ⟨by kernel_rfl, ?_⟩
              go_simp
              refine hK3 (fun W => ∃ p : ι, W = ff p) _ _ (fun _ h => h) (HFS.out _ (HSS.out _ _ _ _ G14.out (List.mem_cons_self ..))) ?_
              refine wpSegs3_fin (by simp only [pick, List.getElem?_cons_succ, List.getElem?_cons_zero]; rfl) (by simp only [pick, List.getElem?_cons_succ, List.getElem?_cons_zero]; rfl) (fun L4 hL4 => ?_)
              repeat (first | go_big_quiet_step (fail) | quiet_step (fail))
              refine wpQuiet_nil (hL4 _ ?_)
              repeat (first | go_big_quiet_step (fail) | quiet_step (fail))
              refine wpQuiet_nil ?_
              clear q0 q1 q3 q4
              go_wp2
              go_meet
              exact ⟨congrArg Value.bool (HR.out.trans HOW.out.symm), G14⟩
            | false =>
              have q2 : ¬ nmg = ⟨#[]⟩ := fun e => by have h1 := (empty_iff nmg).2 e; rw [HEB.out] at h1; cases h1
              have HOW := Lib.hid (HND2.out q2)
              have HOX := Lib.hid (show (!decide (nmg = ⟨#[]⟩) && nxtB gs nm (j + 1)) = nxtB gs nm (j + 1) by rw [decide_eq_false q2]; simp)
              clear q2 HND1 HND2
              go_wp2
              go_meet
              exact ⟨by rw [HOW.out, HOX.out], G11⟩
          case rest =>
          clear z0 z1 z2 G11 HND1 HND2
          obtain ⟨rfl, G12⟩ := hcut
          cases hnd : needB x.paras nm gs j (a, b2, nmg) with
          | false =>
            have HEJ := Lib.hid (HNN.out hnd)
            clear HYE HNN hnd
            go_wp2
            go_roundw
            case rel => exact ⟨j + 1, u, by omega, intNum, by rw [HEJ.out]; exact Lib.hid (G12.out.less (fun p hp => List.mem_cons_of_mem _ hp))⟩
            case measure => simp [intOf]; omega
          | true =>
          have HEJ := Lib.hid (HYE.out hnd)
          clear HYE HNN hnd
          have hsa1 : (a : Int) ≤ (b2 : Int) := by omega
          have hcc : M ≤ cc4 := by
            obtain ⟨_, _, hp, _⟩ := HIN.out _ _ _ _ G12.out
            obtain ⟨_, _, e, h1, _⟩ := hp.form
            injection e with _ _ e
            rw [HMP.out] at h1
            omega
          have hsa2 : (b2 : Int) ≤ (cc4 : Int) := by omega
          have hsa3 : ((b2 : Int) - (a : Int)).toNat = b2 - a := by omega
          have HSS := Lib.hid (fun (W : World) l u' u P (hW : PaG w7 l u' P W) (hm : (Z, cellsP #[.int .i64 (a : Int), .int .i64 (b2 : Int), .string nmg] 88) ∈ P) (hm2 : (Yy, cellsP #[.string x.no, .int .i64 x.place, .string x.set, .int .i64 x.time, u] 71) ∈ P) => show W.cell? ⟨Yy, 4, none⟩ = some u ∧ W.cell? ⟨Y, 4, none⟩ = some (.slice (some ⟨b4, off4, none⟩) M cc4) ∧ W.cell? ⟨Z, 0, none⟩ = some (.int .i64 (a : Int)) ∧ W.cell? ⟨Z, 1, none⟩ = some (.int .i64 (b2 : Int)) from
            ⟨(HCYy.out W l u' u P hW hm2).1.2.2.2.2, (HIN.out W l u' P hW).1.1, (HCZ.out W l u' P hW hm).1, (HCZ.out W l u' P hW hm).2.1⟩)
          have HLN := Lib.hid (show ((x.paras.drop a).take (b2 - a)).length = b2 - a by rw [List.length_take, List.length_drop, HMP.out]; omega)
          have HSL := Lib.hid (show Sli paraR wc.drew F ((x.paras.drop a).take (b2 - a)) (.slice (some ⟨b4, off4 + a * 2, none⟩) (b2 - a) (cc4 - a)) from ((HIN.out _ _ _ _ G12.out.drew).2.2.1.drop_ a (by rw [HMP.out]; omega) (M - a) (cc4 - a) (by rw [HMP.out]) rfl).take_ (b2 - a) (by rw [List.length_drop, HMP.out]; omega))
          obtain ⟨lo, hlo2⟩ : ∃ lo, partN x.paras nm gs j = lo := ⟨_, rfl⟩
          have hlo := partN_len x.paras nm gs j
          rw [hlo2, HMP.out] at hlo
          rw [hlo2] at G12 HEJ
          obtain ⟨ln, hln⟩ : ∃ ln, lo.length = ln := ⟨_, rfl⟩
          have HL1 := Lib.hid hln
          rw [hln] at hlo
          have hjm : j * M ≤ 100000 * 100000 := Nat.mul_le_mul (by omega) hpl
          obtain ⟨A5, c5, rfl, _, _⟩ := (G12.out.own.sliF (F := fun _ => True) (enc := Para.cells) (hn := fun _ => rfl) (fun _ _ => trivial)).form
          rw [hln] at G12
          clear hln hlo2
          obtain ⟨ι, ff, hne, hff, hfS⟩ := family (fun W => W.cell? ⟨Yy, 4, none⟩ = some (.slice A5 ln c5) ∧ W.cell? ⟨Y, 4, none⟩ = some (.slice (some ⟨b4, off4, none⟩) M cc4) ∧ W.cell? ⟨Z, 0, none⟩ = some (.int .i64 (a : Int)) ∧ W.cell? ⟨Z, 1, none⟩ = some (.int .i64 (b2 : Int))) wc (HSS.out _ _ _ _ _ G12.out (List.mem_cons_self ..) (by simp))
          have q0 := fun p => (hff p).1
          have q1 := fun p => (hff p).2.1
          have q3 := fun p => (hff p).2.2.1
          have q4 := fun p => (hff p).2.2.2
          have HFS := Lib.hid hfS
          have hz7 := G12.out.size
          have hca : ¬ cc4 = a := by omega
          clear hff hfS
          go_upto_region 17 with (fail)
          refine wp_region_segs3 [8, 9] [] [] [([0, 2, 4, 6], [1, 3, 5, 7], 8), ([], [], 9), ([10], [], 11)] (by kernel_rfl) (by kernel_rfl) (fun _ _ _ dd _ h => by cases dd <;> exact h) (fun W => ∃ p : ι, W = ff p) (HFS.out _ (HSS.out _ _ _ _ _ G12.out.drew (List.mem_cons_self ..) (by simp))) ?_
          refine wpSegs3_step (by simp only [pick, List.getElem?_cons_succ, List.getElem?_cons_zero]; rfl) (by simp only [pick, List.getElem?_cons_succ, List.getElem?_cons_zero]; rfl) rfl (fun K0 hK0 L0 hL0 => ?_)
          repeat (first | go_big_quiet_step (fail) | quiet_step (fail))
          refine wpQuiet_nil (hL0 _ ?_)
          repeat (first | go_big_quiet_step (fail) | quiet_step (fail))
          refine wpQuiet_nil ?_
          refine Or.inl ⟨by kernel_rfl, ?_⟩
          go_simp
          refine hK0 (fun W => ∃ p : ι, W = ff p) _ _ (fun _ h => h) (HFS.out _ (HSS.out _ _ _ _ _ G12.out.drew (List.mem_cons_self ..) (by simp))) ?_
          refine wpSegs3_step (by simp only [pick, List.getElem?_cons_succ, List.getElem?_cons_zero]; rfl) (by simp only [pick, List.getElem?_cons_succ, List.getElem?_cons_zero]; rfl) rfl (fun K1 hK1 L1 hL1 => ?_)
          repeat (first | go_big_quiet_step (fail) | quiet_step (fail))
          refine wpQuiet_nil (hL1 _ ?_)
          repeat (first | go_big_quiet_step (fail) | quiet_step (fail))
          refine wpQuiet_nil ?_
          refine Or.inl ⟨by kernel_rfl, ?_⟩
          refine oper_appL (n := 2) (enc := Para.cells) (hn := fun _ => rfl) _ _ _ rfl w7.heap.size w7.heap.size 78 i1 _ 24 Tryz.underlying69 hi1 hy0 (by assumption) (by assumption) rfl (by decide) (fun _ => oneC rfl) _ (.slice A5 ln c5) lo rfl G12.out.drew.own ((x.paras.drop a).take (b2 - a)) _ (b2 - a) _ rfl HSL.out HLN.out (by omega) (by rw [HL1.out]; simp [maxLen]; omega) (by rw [HL1.out]; omega) (by have := G12.out.drew.size; omega) ?_
          rw [HL1.out]
          intro g cap w13 hown13 hg13 hat13 hlt13
          have hG13 := G12.out.drew.more hown13 hg13 rfl hat13
          obtain ⟨⟨_, _, _, _, e4⟩, _, f4⟩ := HCYy.out _ _ _ (.slice A5 ln c5) _ hG13 (by simp)
          refine hK1 (fun W => ∃ p : ι, W = ff p) _ _ (fun _ h => h) (HFS.out _ (HSS.out _ _ _ _ _ hG13 (List.mem_cons_self ..) (by simp))) ?_
          have G14 := Lib.hid ((hG13.less (Q := [(Yy, cellsP #[.string x.no, .int .i64 x.place, .string x.set, .int .i64 x.time, .slice A5 ln c5] 71)]) (by simp)).set0 4 (.slice (some ⟨g, 0, none⟩) (ln + (b2 - a)) cap) (by simp))
          clear hG13 hown13 hg13 hat13
          refine wpSegs3_last (by simp only [pick, List.getElem?_cons_succ, List.getElem?_cons_zero]; rfl) (by simp only [pick, List.getElem?_cons_succ, List.getElem?_cons_zero]; rfl) rfl (by rfl) (fun K2 hK2 L2 hL2 => ?_)
          repeat (first | go_big_quiet_step (fail) | quiet_step (fail))
          refine wpQuiet_nil (hL2 _ ?_)
          repeat (first | go_big_quiet_step (fail) | quiet_step (fail))
          refine wpQuiet_nil ?_
          refine Or.inl ⟨by kernel_rfl, ?_⟩
          go_simp
          refine hK2 _ _ (wpSegs3_end ?_)
          clear q0 q1 q3 q4
          go_wp2
          go_roundw
          case rel => exact ⟨j + 1, _, by omega, intNum, by rw [HEJ.out]; exact G14⟩
          case measure => simp [intOf]; omega
        · have HPE := Lib.hid (show partS x.paras nm = partN x.paras nm gs j by rw [HPS.out, show K = j by omega])
          obtain ⟨pl, hpl2⟩ : ∃ pl, partS x.paras nm = pl := ⟨_, rfl⟩
          rw [hpl2] at HE HPE
          rw [← HPE.out] at HG
          obtain ⟨A6, c6, hu, _, _⟩ := (HG.out.own.sliF (F := fun _ => True) (enc := Para.cells) (hn := fun _ => rfl) (fun _ _ => trivial)).form
          obtain ⟨PL, hPL⟩ : ∃ PL, pl.length = PL := ⟨_, rfl⟩
          rw [hPL] at hu
          subst hu
          obtain ⟨hp1, hp2, hp3, hp4⟩ := HG.out.prv (Yy, cellsP #[.string x.no, .int .i64 x.place, .string x.set, .int .i64 x.time, .slice A6 PL c6] 71) (by simp)
          have hheap : wr.heap[Yy]? = some (.cells #[.string x.no, .int .i64 x.place, .string x.set, .int .i64 x.time, .slice A6 PL c6] 71 (0, 0)) := hp1
          have G15 := Lib.hid (HB3.out.blk HG.out.bel (B := Yy) (Nat.le_of_eq HYY.out) hheap)
          have HU := Lib.hid (show Sli paraR wr (InF w wr (.slice A7 m c7) ((Yy, #[.string x.no, .int .i64 x.place, .string x.set, .int .i64 x.time, .slice A6 PL c6], 71) :: (Y, #[.string x.no, .int .i64 x.place, .string x.set, .int .i64 x.time, .slice A4 M cc4], 71) :: (X, xCs t (.slice A7 m c7), 28) :: Q)) pl (.slice A6 PL c6) from
            (HG.out.own.sliF (F := fun q => (Value.slice A6 PL c6).ownBlock = some q) (enc := Para.cells) (hn := fun _ => rfl) (fun _ h => h)).more fun q hq => by
              have hbl := HG.out.own.block q hq
              have hsz := HB3.out.bo.bel.size
              refine ⟨by omega, hbl.2, fun p hp => ?_, fun e => by have := (HB3.out.bo.own.block q e).2; omega⟩
              rcases List.mem_cons.1 hp with rfl | hp
              · intro e
                exact hp4 (by rw [hq, e])
              · have := HB3.out.bo.plt hp
                intro e
                omega)
          have hpX2 : X < Yy := by have h1 := HB3.out.bo.plt (p := (X, xCs t (.slice A7 m c7), 28)) (by simp); dsimp only at h1; rw [HYY.out] at h1; exact h1
          have HPLT := Lib.hid (show ∀ p ∈ (Y, #[.string x.no, .int .i64 x.place, .string x.set, .int .i64 x.time, .slice A4 M cc4], 71) :: (X, xCs t (.slice A7 m c7), 28) :: Q, p.1 ≠ Yy from fun p hp => by have h1 := HB3.out.bo.plt hp; rw [HYY.out] at h1; omega)
          clear hp1 hp2 hp3 hp4 hheap hpl2 hPL HPE HG HPS HB3 HIN HCYy HGS HCH HKL
          have HCZ := Lib.hid (fun (W : World) l v (tm : Int) P (hW : BI w l v P W) (hP : (Yy, #[.string x.no, .int .i64 x.place, .string x.set, .int .i64 tm, .slice A6 PL c6], 71) ∈ P) => show (W.cell? ⟨Yy, 0, none⟩ = some (.string x.no) ∧ W.cell? ⟨Yy, 1, none⟩ = some (.int .i64 x.place) ∧ W.cell? ⟨Yy, 2, none⟩ = some (.string x.set) ∧ W.cell? ⟨Yy, 3, none⟩ = some (.int .i64 tm) ∧ W.cell? ⟨Yy, 4, none⟩ = some (.slice A6 PL c6)) ∧ W.frozen? ⟨Yy, 3, none⟩ = false by
            obtain ⟨gx, gf⟩ := hW.cell hP
            exact ⟨⟨gx 0, gx 1, gx 2, gx 3, gx 4⟩, gf 3⟩)
          obtain ⟨_, v1, _, _⟩ := HCV.out _ _ _ (.slice A7 m c7) _ G15.out (by simp)
          obtain ⟨em0, hem0⟩ : ∃ em0, ((m : Int) == 0) = em0 := ⟨_, rfl⟩
          have HEM2 := Lib.hid (show em = em0 by
            rw [← hem0, HEM.out]
            by_cases h0 : m = 0
            · subst h0; rfl
            · rw [decide_eq_false h0]
              exact (beq_eq_false_iff_ne.2 (by omega)).symm)
          go_upto_if 101 with (fail)
          clear hem0
          go_cut [] (fun wx => Hid (BI w lk (.slice A7 m c7) ((Yy, #[.string x.no, .int .i64 x.place, .string x.set, .int .i64 tm, .slice A6 PL c6], 71) :: (Y, #[.string x.no, .int .i64 x.place, .string x.set, .int .i64 x.time, .slice A4 M cc4], 71) :: (X, xCs t (.slice A7 m c7), 28) :: Q) wx) ∧ Hid (Sli paraR wx (InF w wx (.slice A7 m c7) ((Yy, #[.string x.no, .int .i64 x.place, .string x.set, .int .i64 tm, .slice A6 PL c6], 71) :: (Y, #[.string x.no, .int .i64 x.place, .string x.set, .int .i64 x.time, .slice A4 M cc4], 71) :: (X, xCs t (.slice A7 m c7), 28) :: Q)) pl (.slice A6 PL c6)))
          case first =>
            clear HE v1
            cases em0 with
            | false =>
              have hte : x.time = tm := by rw [← HTMV.out, if_neg (by rw [HEM2.out]; decide)]
              have HTE := Lib.hid hte
              clear hte HTMV
              go_wp2
              go_meet
              exact ⟨by rw [← HTE.out]; exact G15, by rw [← HTE.out]; exact HU⟩
            | true =>
              have hte : tmAt (ls.map (·.1)) k = tm := by rw [← HTMV.out, if_pos HEM2.out]
              obtain ⟨hts, htl⟩ := HTS.out _ _ _ _ G15.out (fun p hp => by simp [hp])
              obtain ⟨bt, offt, rfl, _, ct0⟩ := intAt hts k (by rw [tmS_len]; exact hlt)
              rw [show (tmS (ls.map (·.1)) L)[k]'(by rw [tmS_len]; exact hlt) = tmAt (ls.map (·.1)) k by simp [tmS], hte] at ct0
              have hkI : (k : Int) < (L : Int) := by omega
              obtain ⟨⟨_, _, _, s3, _⟩, f3⟩ := HCZ.out _ _ _ _ _ G15.out (List.mem_cons_self ..)
              have G16 := Lib.hid (G15.out.set (i := 3) (.int .i64 tm) HPLT.out)
              have HU16 := Lib.hid (innSet (i := 3) (z := .int .i64 tm) HU.out)
              clear hte HTMV hts htl G15 HU
              go_wp2
              go_meet
              exact ⟨G16, HU16⟩
          case rest =>
          clear v1 G15 HU HTMV HTS
          obtain ⟨G17, HU17⟩ := hcut
          obtain ⟨⟨s0, s1, s2, s3, s4⟩, _⟩ := HCZ.out _ _ _ _ _ G17.out (List.mem_cons_self ..)
          obtain ⟨_, x1, _, _⟩ := HCV.out _ _ _ (.slice A7 m c7) _ G17.out (by simp)
          have hz7 := G17.out.bo.size
          have HCV2 := Lib.hid (fun (W : World) l v P (hW : BI w l v P W) (hP : (X, xCs t (.slice A7 m c7), 28) ∈ P) => show W.cell? ⟨X, 1, none⟩ = some (.slice A7 m c7) ∧ W.frozen? ⟨X, 1, none⟩ = false from ⟨(HCV.out W l v (.slice A7 m c7) P hW hP).2.1, (HCV.out W l v (.slice A7 m c7) P hW hP).2.2.2⟩)
          generalize hva : Value.slice A7 m c7 = va at *
          go_wp2_with (at_builtin; (refine wpList_pushB (R := svR) rfl _ _ _ rfl w.heap.size w.heap.size 71 i0 _ 72 Tryz.underlying26 hi0 hz0 hz1 hz2 rfl (by decide) _ va lk rfl (G17.out.bo.own.alloc _) ((⟨x.no, x.place, x.set, tm, pl⟩, .slice A6 PL c6) : Scene × Value) _ rfl (oneC rfl) wc.heap.size _ _ (heap_alloc_new wc _) rfl (by rw [HLK.out]; simp [maxLen]; omega) (by rw [HLK.out]; omega) (by simp; omega) ?_); rw [HLK.out]; intro g cap w10 hown10 hg10 hat10 hlt10; have G8 := BI.more (G17.out.alloc _) hown10 hg10 rfl hat10 (((HU17.out.alloc _ (fun q hq => hq.2.1))).more fun q hq => ⟨hq.1, by have := hq.2.1; simp; omega, hq.2.2⟩); obtain ⟨x8, f8⟩ := HCV2.out _ _ _ _ G8 (by simp))
          go_roundw
          case rel => exact ⟨k + 1, lk ++ [(⟨x.no, x.place, x.set, tm, pl⟩, .slice A6 PL c6)], _, by omega, intNum, by rw [HE.out, List.map_append, HK.out]; rfl, Lib.hid ((G8.less (Q := (X, xCs t va, 28) :: Q) (fun p hp => List.mem_cons_of_mem _ (List.mem_cons_of_mem _ hp))).set (i := 1) _ HQX.out)⟩
          case measure => simp [intOf]; omega
    · have HK2 := Lib.hid (show lk.map (·.1) = sidS (ls.map (·.1)) nm by unfold sidS; rw [HK.out, HLm.out, show L = k by omega])
      obtain ⟨x0, x1, _, _⟩ := HCV.out _ _ _ (.slice A7 m c7) _ HG.out (by simp)
      obtain ⟨y0, y1, f0, f1⟩ := HCR.out _ _ _ _ HG.out (by simp [HQ3.out])
      have HEM := Lib.hid (show decide (0 < m) = (!(sidS (ls.map (·.1)) nm).isEmpty) by
        rw [← HK2.out, ← HLK.out]
        cases lk <;> simp)
      have HF := Lib.hid (((((HG.out.less (Q := [(w.heap.size + 2, xCs ⟨#[]⟩ (.slice none 0 0), 28)]) (by simp [HQ3.out])).set (i := 0) (.string t) (by simp)).set (i := 1) (.slice A7 m c7) (by simp))).drew.less (Q := []) (by simp))
      clear HG
      go_wp2
      go_region
      go_wp2
      refine ⟨rfl, .tuple #[.agg (xCs t (.slice A7 m c7)), .bool (decide (0 < m))], (by rw [results_cell_tmp rfl]; go_simp; rfl), ?_⟩
      exact ⟨lk, _, by rw [← HEM.out], HF.out, HK2.out⟩
end Go.Proofs.YtkhegeobdcemkaaGreatDoor

