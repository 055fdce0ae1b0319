/- Texts packed: ChkG, TcA, TcB, TcC. -/
import Derived.Test.YtmefjkfjpgblcaaGreatDoorSc21
import Derived.Test.YtmefjkfjpgblcaaGreatDoorSc13
import Derived.Test.YtmefjkfjpgblcaaGreatDoorSc08
import Derived.BigQuiet
/- The reference's error of a script, whole. -/
namespace Go.Proofs.YtmefjkfjpgblcaaGreatDoor
set_option linter.unusedVariables false
open Go.RowKit Go.Sort

theorem sceneRE_next {t : ByteArray} {ls : List (Scene × Value)} {k : Nat} (hk : k < ls.length) (h : chkE ⟨t, ls.map (·.1)⟩ = scenesE k (seenAt ls k) ((ls.map (·.1)).drop k)) :
    chkE ⟨t, ls.map (·.1)⟩ = if ¬ sceneRE k (seenAt ls k) (ls[k]).1 = 0 then sceneRE k (seenAt ls k) (ls[k]).1 else scenesE (k + 1) (seenAt ls (k + 1)) ((ls.map (·.1)).drop (k + 1)) := by
  rw [h, List.drop_eq_getElem_cons (by rw [List.length_map]; exact hk), List.getElem_map, ← sceneRE_eq, seenAt_step ls k hk]

set_option maxRecDepth 100000 in
set_option maxHeartbeats 8000000 in
theorem ScriptFault_c {F : Nat → Prop} (t : ByteArray) (ls : List (Scene × Value)) (v : Value) (w : World) (h : ScL w F t ls v) (hsp : SpLaid w) (hm : MaxLaid w) :
    Calls Tryz.prog 44 #[.agg #[.string t, v]] w (ChP ⟨t, ls.map (·.1)⟩ w) := by
  obtain ⟨A, c, rfl, hlc, hcm⟩ := h.sli.form
  have hll := h.len
  have htl := h.tl
  obtain ⟨L, hL⟩ : ∃ L, ls.length = L := ⟨_, rfl⟩
  have HL := Lib.hid hL
  rw [hL] at h hlc hll ⊢
  have HH := Lib.hid h
  have HM := Lib.hid hm
  have HSP := Lib.hid hsp
  have HB := Lib.hid ((Below.refl w.heap.size w).alloc (Nat.le_refl _) (.cells #[.string t, .slice A L c] 44))
  have HLO := Lib.hid (long_c t 1 60 (w.alloc (.cells #[.string t, .slice A L c] 44)) (by omega))
  have HPL := Lib.hid (plainR_c t (w.alloc (.cells #[.string t, .slice A L c] 44)) (by omega) (sp_below hsp HB.out (Nat.le_refl _)))
  have HY := Lib.hid (fun (W : World) (hb : Below (w.alloc (.cells #[.string t, .slice A L c] 44)).heap.size (w.alloc (.cells #[.string t, .slice A L c] 44)) W) => show W.cell? ⟨w.heap.size, 1, none⟩ = some (.slice A L c) by
    obtain ⟨y, _⟩ := str_cells ((hb.block w.heap.size (by simp)).trans (heap_alloc_new w _))
    exact y 1)
  clear hL h hm hsp
  by_cases h0 : t.size < 1 ∨ 60 < t.size
  · have HR := Lib.hid (show chkE ⟨t, ls.map (·.1)⟩ = 3 from if_pos (by rcases h0 with h | h; exact .inl h; exact .inr (.inl h)))
    have hlo : (decide ((1 : Int) ≤ t.size) && decide ((t.size : Int) ≤ 60)) = false := by
      rcases h0 with h | h
      · rw [decide_eq_false (by omega)]; rfl
      · rw [decide_eq_false (p := (t.size : Int) ≤ 60) (by omega)]; simp
    clear h0
    go_enter Tryz.func44, Tryz.ntmps44
    go_wp2_with (first | (go_at_call 71; with_reducible refine HLO.out.mono ?_; rintro e w' ⟨rfl, rfl⟩; rw [hlo]) | fail)
    go_ret
    exact ChP.mk HR.out HB.out
  have hlo : (decide ((1 : Int) ≤ t.size) && decide ((t.size : Int) ≤ 60)) = true := by rw [decide_eq_true (by omega), decide_eq_true (by omega)]; rfl
  cases hpl : plainB t with
  | false =>
    have HR := Lib.hid (show chkE ⟨t, ls.map (·.1)⟩ = 3 from if_pos (.inr (.inr hpl)))
    clear h0
    go_enter Tryz.func44, Tryz.ntmps44
    go_wp2_with (first | (go_at_call 71; with_reducible refine HLO.out.mono ?_; rintro e w' ⟨rfl, rfl⟩; rw [hlo]) | (go_at_call 72; with_reducible refine HPL.out.mono ?_; rintro e w2 ⟨rfl, hb2⟩; rw [hpl]) | fail)
    go_ret
    exact ChP.mk HR.out (HB.out.trans (hb2.mono (by simp)))
  | true =>
  have HR1 := Lib.hid (show chkE ⟨t, ls.map (·.1)⟩ = if 300 < (ls.map (·.1)).length ∨ 4000 < parasN (ls.map (·.1)) then 2 else scenesE 0 [] (ls.map (·.1)) from if_neg (by dsimp only; rw [hpl]; rintro (h | h | h); exact h0 (.inl h); exact h0 (.inr h); cases h))
  clear h0
  go_enter Tryz.func44, Tryz.ntmps44
  go_wp2_with (first | (go_at_call 71; with_reducible refine HLO.out.mono ?_; rintro e w' ⟨rfl, rfl⟩; rw [hlo]) | (go_at_call 72; with_reducible refine HPL.out.mono ?_; rintro e w2 ⟨rfl, hb2⟩; rw [hpl]; have x1 := HY.out w2 hb2) | fail)
  have HB2 := Lib.hid (HB.out.trans (hb2.mono (by simp)))
  have hz2 : w.heap.size < w2.heap.size := Nat.lt_of_lt_of_le (by simp) hb2.size
  have HX1 := Lib.hid x1
  clear hpl HPL HLO hlo hb2 HY HB
  go_loopw [3, 21] (fun s i wr => ∃ (k n : Nat), k ≤ L ∧ i = .int .i64 k ∧ s = .int .i64 n ∧ n ≤ 1000000 * k ∧ Hid (parasN ((ls.map (·.1)).take k) = n) ∧ Hid (Below w.heap.size w wr) ∧ w.heap.size < wr.heap.size ∧ wr.cell? ⟨w.heap.size, 1, none⟩ = some (.slice A L c)) (fun _ i _ => L - (intOf i).toNat)
  case atStart => exact ⟨0, 0, Nat.zero_le _, rfl, rfl, by omega, rfl, HB2.out, hz2, HX1.out⟩
  case round =>
    clear HB2 x1 hz2
    obtain ⟨k, n, hk, rfl, rfl, hn, HN, HB, hzw, x1⟩ := hrel
    by_cases hlt : k < L
    · have hk2 : k < ls.length := by rw [HL.out]; exact hlt
      obtain ⟨b, off, rfl, hfb, c0, c1, c2, c3, c4⟩ := scAt (HH.out.below HB.out).sli k hk2
      obtain ⟨A4, cc4, h4, _, _⟩ := (HH.out.par _ (List.getElem_mem hk2)).form
      have hbd := (HH.out.bd _ (List.getElem_mem hk2)).2.2.1
      have hpn := parasN_take (ls.map (·.1)) k (by rw [List.length_map]; exact hk2)
      rw [HN.out, List.getElem_map] at hpn
      rw [h4] at c4
      have hbw : b < wr.heap.size := Nat.lt_of_lt_of_le (HH.out.lt b hfb) (by omega)
      clear h4
      generalize (ls[k]'hk2).1 = x at *
      have HPN := Lib.hid hpn
      generalize x.paras.length = pl at *
      have HB1 := Lib.hid (HB.out.alloc (by omega) (.cells #[.string x.no, .int .i64 x.place, .string x.set, .int .i64 x.time, .slice A4 pl cc4] 119))
      have x1' : (wr.alloc (.cells #[.string x.no, .int .i64 x.place, .string x.set, .int .i64 x.time, .slice A4 pl cc4] 119)).cell? ⟨w.heap.size, 1, none⟩ = some (.slice (some ⟨b, off, none⟩) L c) := (World.cell?_alloc_lt wr _ ⟨w.heap.size, 1, none⟩ hzw).trans x1
      clear hpn hk2
      go_wp2
      go_roundw
      case rel => exact ⟨k + 1, n + pl, by omega, intNum, by congr 1, by omega, HPN.out, HB1.out, by simp; omega, x1'⟩
      case measure => simp [intOf]; omega
    · have HN2 := Lib.hid (show parasN (ls.map (·.1)) = n by
        have h := HN.out
        rw [List.take_of_length_le (by rw [List.length_map, HL.out]; omega)] at h
        exact h)
      clear HN hn
      by_cases h300 : 300 < L ∨ 4000 < n
      · have HR := Lib.hid (HR1.out.trans (by rw [HN2.out, List.length_map, HL.out, if_pos h300]))
        by_cases h3 : 300 < L
        · have h3' : (300 : Int) < (L : Int) := by omega
          clear h300
          go_wp2
          go_ret
          exact ChP.mk HR.out HB.out
        · have h3' : (L : Int) ≤ 300 := by omega
          have h4' : (4000 : Int) < (n : Int) := by omega
          clear h300
          go_wp2
          go_ret
          exact ChP.mk HR.out HB.out
      have HR2 := Lib.hid (HR1.out.trans (by rw [HN2.out, List.length_map, HL.out, if_neg h300] : _ = scenesE 0 [] (ls.map (·.1))))
      have h3' : (L : Int) ≤ 300 := by omega
      have h4' : (n : Int) ≤ 4000 := by omega
      have HX := Lib.hid x1
      clear h300 HR1 HN2
      go_wp2
      go_loopw [42, 6, 7] (fun i _ _ wr => ∃ (k : Nat), k ≤ L ∧ i = .int .i64 k ∧ Hid (chkE ⟨t, ls.map (·.1)⟩ = scenesE k (seenAt ls k) ((ls.map (·.1)).drop k)) ∧ Hid (Below w.heap.size w wr) ∧ w.heap.size < wr.heap.size ∧ wr.cell? ⟨w.heap.size, 1, none⟩ = some (.slice A L c)) (fun i _ _ _ => L - (intOf i).toNat)
      case atStart => exact ⟨0, Nat.zero_le _, rfl, HR2.out, HB.out, hzw, HX.out⟩
      case round =>
        clear HB HR2 HX x1 hzw
        obtain ⟨k, hk, rfl, HE, HB, hzw, x1⟩ := hrel
        by_cases hlt : k < L
        · have hk2 : k < ls.length := by rw [HL.out]; exact hlt
          have HST := Lib.hid (sceneRE_next hk2 HE.out)
          have HSF := Lib.hid (sceneFaultR_c t ls (.slice A L c) k wr (HH.out.below HB.out) hk2 (sp_below HSP.out HB.out (Nat.le_refl _)) (max_below HM.out HB.out (Nat.le_refl _)))
          generalize sceneRE k (seenAt ls k) (ls[k]'hk2).1 = se at *
          clear hk2 HE
          go_wp2_with fail
          with_reducible refine HSF.out.mono ?_
          rintro e w5 ⟨rfl, hb5⟩
          have x5 : w5.cell? ⟨w.heap.size, 1, none⟩ = some (.slice A L c) := (hb5.cell (p := ⟨w.heap.size, 1, none⟩) hzw).trans x1
          have hz5 := hb5.size
          have HB5 := Lib.hid (HB.out.trans (hb5.mono (by omega)))
          have HX5 := Lib.hid x5
          clear hb5 HSF x1
          by_cases hs0 : se = 0
          · subst hs0
            have HR := Lib.hid (HST.out.trans (if_neg (by decide)))
            go_wp2
            go_roundw
            case rel => exact ⟨k + 1, by omega, intNum, HR.out, HB5.out, by omega, HX5.out⟩
            case measure => simp [intOf]; omega
          · have HR := Lib.hid (HST.out.trans (if_pos hs0))
            have hne : (se != 0) = true := by rw [bne_iff_ne]; exact hs0
            clear hs0 HST
            go_wp2
            go_ret
            exact ChP.mk HR.out HB5.out
        · have HR := Lib.hid (HE.out.trans (scenesE_end (ls.map (·.1)) k (seenAt ls k) (by rw [List.length_map, HL.out]; exact hlt)))
          go_wp2
          go_ret
          exact ChP.mk HR.out HB.out
end Go.Proofs.YtmefjkfjpgblcaaGreatDoor

/- take.scriptFault, R.StoryFault, R.sceneAt, walked. -/
namespace Go.Proofs.YtmefjkfjpgblcaaGreatDoor
set_option linter.unusedVariables false
open Go.RowKit Go.Sort

def StP (x : Script) (w : World) (e : Ending) (w' : World) : Prop := e = .returned (.int .i64 (stE x)) ∧ Below w.heap.size w w'
theorem StP.mk {x : Script} {q : Int} {w w' : World} (h : stE x = q) (hb : Below w.heap.size w w') : StP x w (.returned (.int .i64 q)) w' := ⟨by rw [h], hb⟩
theorem empty_dec (s : ByteArray) : s.toList.isEmpty = decide (s = ⟨#[]⟩) := by
  cases h : s.toList.isEmpty with
  | true => exact (decide_eq_true ((empty_iff s).1 h)).symm
  | false => exact (decide_eq_false (fun e => by rw [(empty_iff s).2 e] at h; cases h)).symm
set_option maxHeartbeats 400000 in
theorem scriptFault1_p (w : World) : PredS Tryz.prog 171 #[] (fun y => decide (y.no = ⟨#[]⟩)) w := by
  refine ⟨fun _ _ => by kernel_rfl, fun x A n c W _ => ?_⟩
  show Calls Tryz.prog _ #[.agg #[.string x.no, .int .i64 x.place, .string x.set, .int .i64 x.time, .slice A n c]] W _
  go_enter Tryz.func171, Tryz.ntmps171
  go_wp2
  go_ret
  exact ⟨ret_bool (empty_dec _), (Below.refl _ _).alloc (Nat.le_refl _) _⟩
set_option maxHeartbeats 400000 in
theorem storyFault1_p (w : World) : PredS Tryz.prog 174 #[] (fun y => decide (y.no = ⟨#[]⟩)) w := by
  refine ⟨fun _ _ => by kernel_rfl, fun x A n c W _ => ?_⟩
  show Calls Tryz.prog _ #[.agg #[.string x.no, .int .i64 x.place, .string x.set, .int .i64 x.time, .slice A n c]] W _
  go_enter Tryz.func174, Tryz.ntmps174
  go_wp2
  go_ret
  exact ⟨ret_bool (empty_dec _), (Below.refl _ _).alloc (Nat.le_refl _) _⟩
set_option maxRecDepth 100000 in
set_option maxHeartbeats 4000000 in
theorem scriptFaultP_c {F : Nat → Prop} (t : ByteArray) (ls : List (Scene × Value)) (v : Value) (w : World) (h : ScL w F t ls v) (hm : MaxLaid w) :
    Calls Tryz.prog 91 #[.agg #[.string t, v]] w (StP ⟨t, ls.map (·.1)⟩ w) := by
  obtain ⟨A, c, rfl, hlc, hcm⟩ := h.sli.form
  have HB := Lib.hid ((Below.refl w.heap.size w).alloc (Nat.le_refl _) (.cells #[.string t, .slice A ls.length c] 44))
  have h1 := h.below HB.out
  have HCK := Lib.hid (Check_c t ls (.slice A ls.length c) (w.alloc (.cells #[.string t, .slice A ls.length c] 44)) h1 (max_alloc hm _))
  have HH := Lib.hid h1
  have HY := Lib.hid (fun (W : World) (hb : Below (w.alloc (.cells #[.string t, .slice A ls.length c] 44)).heap.size (w.alloc (.cells #[.string t, .slice A ls.length c] 44)) W) => show W.cell? ⟨w.heap.size, 0, none⟩ = some (.string t) ∧ W.cell? ⟨w.heap.size, 1, none⟩ = some (.slice A ls.length c) by
    obtain ⟨y, _⟩ := str_cells ((hb.block w.heap.size (by simp)).trans (heap_alloc_new w _))
    exact ⟨y 0, y 1⟩)
  have HST := Lib.hid (show stE ⟨t, ls.map (·.1)⟩ = if ¬ chkE ⟨t, ls.map (·.1)⟩ = 0 then chkE ⟨t, ls.map (·.1)⟩ else if (ls.any fun x => decide (x.1.no = ⟨#[]⟩)) = true then 10 else 0 by unfold stE; rw [List.any_map]; rfl)
  clear h h1 hm
  obtain ⟨L, hL⟩ : ∃ L, ls.length = L := ⟨_, rfl⟩
  have HL := Lib.hid hL
  rw [hL] at HCK HH HY hlc HB ⊢
  clear hL
  go_enter Tryz.func91, Tryz.ntmps91
  go_wp2_with fail
  refine HCK.out.mono ?_
  rintro e w2 ⟨rfl, hb2⟩
  obtain ⟨y0, y1⟩ := HY.out w2 hb2
  have HH2 := Lib.hid (HH.out.below hb2)
  have HB2 := Lib.hid (HB.out.trans (hb2.mono HB.out.size))
  clear hb2 HCK HY HB HH
  by_cases hc : chkE ⟨t, ls.map (·.1)⟩ = 0
  case neg =>
    have HR := Lib.hid (HST.out.trans (if_pos hc))
    have hne : (chkE ⟨t, ls.map (·.1)⟩ != 0) = true := by rw [bne_iff_ne]; exact hc
    clear hc
    generalize chkE ⟨t, ls.map (·.1)⟩ = ce at *
    go_wp2
    go_ret
    exact StP.mk HR.out HB2.out
  have HE := Lib.hid (HST.out.trans (if_neg (fun h => h hc)))
  have HHS := Lib.hid (hasScene_c ls A c 171 L #[] (fun y => decide (y.no = ⟨#[]⟩)) w2 HL.out (by rw [HL.out]; exact HH2.out.sli) HH2.out.lt (sli_forms HH2.out.par) HH2.out.len (scriptFault1_p w2))
  rw [hc]
  clear hc HST
  cases ha : (ls.any fun x => decide (x.1.no = ⟨#[]⟩)) with
  | true =>
    have HR := Lib.hid (HE.out.trans (if_pos ha))
    rw [ha] at HHS
    clear ha HE
    go_wp2_with fail
    refine HHS.out.mono ?_
    rintro e w3 ⟨rfl, hb3⟩
    have HB3 := Lib.hid (HB2.out.trans (hb3.mono HB2.out.size))
    clear hb3 HHS
    go_wp2
    go_ret
    exact StP.mk HR.out HB3.out
  | false =>
    have HR := Lib.hid (HE.out.trans (if_neg (by rw [ha]; decide)))
    rw [ha] at HHS
    clear ha HE
    go_wp2_with fail
    refine HHS.out.mono ?_
    rintro e w3 ⟨rfl, hb3⟩
    have HB3 := Lib.hid (HB2.out.trans (hb3.mono HB2.out.size))
    clear hb3 HHS
    go_wp2
    go_ret
    exact StP.mk HR.out HB3.out
set_option maxRecDepth 100000 in
set_option maxHeartbeats 4000000 in
theorem StoryFault_c {F : Nat → Prop} (t : ByteArray) (ls : List (Scene × Value)) (v : Value) (w : World) (h : ScL w F t ls v) (hsp : SpLaid w) (hm : MaxLaid w) :
    Calls Tryz.prog 100 #[.agg #[.string t, v]] w (StP ⟨t, ls.map (·.1)⟩ w) := by
  obtain ⟨A, c, rfl, hlc, hcm⟩ := h.sli.form
  have HB := Lib.hid ((Below.refl w.heap.size w).alloc (Nat.le_refl _) (.cells #[.string t, .slice A ls.length c] 44))
  have h1 := h.below HB.out
  have HCK := Lib.hid (ScriptFault_c t ls (.slice A ls.length c) (w.alloc (.cells #[.string t, .slice A ls.length c] 44)) h1 (sp_below hsp HB.out (Nat.le_refl _)) (max_alloc hm _))
  have HH := Lib.hid h1
  have HY := Lib.hid (fun (W : World) (hb : Below (w.alloc (.cells #[.string t, .slice A ls.length c] 44)).heap.size (w.alloc (.cells #[.string t, .slice A ls.length c] 44)) W) => show W.cell? ⟨w.heap.size, 0, none⟩ = some (.string t) ∧ W.cell? ⟨w.heap.size, 1, none⟩ = some (.slice A ls.length c) by
    obtain ⟨y, _⟩ := str_cells ((hb.block w.heap.size (by simp)).trans (heap_alloc_new w _))
    exact ⟨y 0, y 1⟩)
  have HST := Lib.hid (show stE ⟨t, ls.map (·.1)⟩ = if ¬ chkE ⟨t, ls.map (·.1)⟩ = 0 then chkE ⟨t, ls.map (·.1)⟩ else if (ls.any fun x => decide (x.1.no = ⟨#[]⟩)) = true then 10 else 0 by unfold stE; rw [List.any_map]; rfl)
  clear h h1 hm hsp
  obtain ⟨L, hL⟩ : ∃ L, ls.length = L := ⟨_, rfl⟩
  have HL := Lib.hid hL
  rw [hL] at HCK HH HY hlc HB ⊢
  clear hL
  go_enter Tryz.func100, Tryz.ntmps100
  go_wp2_with fail
  refine HCK.out.mono ?_
  rintro e w2 ⟨rfl, hb2⟩
  obtain ⟨y0, y1⟩ := HY.out w2 hb2
  have HH2 := Lib.hid (HH.out.below hb2)
  have HB2 := Lib.hid (HB.out.trans (hb2.mono HB.out.size))
  clear hb2 HCK HY HB HH
  by_cases hc : chkE ⟨t, ls.map (·.1)⟩ = 0
  case neg =>
    have HR := Lib.hid (HST.out.trans (if_pos hc))
    have hne : (chkE ⟨t, ls.map (·.1)⟩ != 0) = true := by rw [bne_iff_ne]; exact hc
    clear hc
    generalize chkE ⟨t, ls.map (·.1)⟩ = ce at *
    go_wp2
    go_ret
    exact StP.mk HR.out HB2.out
  have HE := Lib.hid (HST.out.trans (if_neg (fun h => h hc)))
  have HHS := Lib.hid (hasScene_c ls A c 174 L #[] (fun y => decide (y.no = ⟨#[]⟩)) w2 HL.out (by rw [HL.out]; exact HH2.out.sli) HH2.out.lt (sli_forms HH2.out.par) HH2.out.len (storyFault1_p w2))
  rw [hc]
  clear hc HST
  cases ha : (ls.any fun x => decide (x.1.no = ⟨#[]⟩)) with
  | true =>
    have HR := Lib.hid (HE.out.trans (if_pos ha))
    rw [ha] at HHS
    clear ha HE
    go_wp2_with fail
    refine HHS.out.mono ?_
    rintro e w3 ⟨rfl, hb3⟩
    have HB3 := Lib.hid (HB2.out.trans (hb3.mono HB2.out.size))
    clear hb3 HHS
    go_wp2
    go_ret
    exact StP.mk HR.out HB3.out
  | false =>
    have HR := Lib.hid (HE.out.trans (if_neg (by rw [ha]; decide)))
    rw [ha] at HHS
    clear ha HE
    go_wp2_with fail
    refine HHS.out.mono ?_
    rintro e w3 ⟨rfl, hb3⟩
    have HB3 := Lib.hid (HB2.out.trans (hb3.mono HB2.out.size))
    clear hb3 HHS
    go_wp2
    go_ret
    exact StP.mk HR.out HB3.out
set_option maxHeartbeats 400000 in
theorem sceneAt1_p (s : ByteArray) (b : Nat) (w : World) (h : w.cell? ⟨b, 0, none⟩ = some (.string s)) (hlt : b < w.heap.size) :
    PredS Tryz.prog 182 #[.pointer (some ⟨b, 0, none⟩)] (fun y => decide (y.no = s) && !s.toList.isEmpty) w := by
  refine ⟨fun _ _ => by kernel_rfl, fun x A n c W hb => ?_⟩
  have hc := cellC h hb hlt
  have hs := hb.size
  have hl : b < W.heap.size := by omega
  clear h hb hlt hs
  show Calls Tryz.prog _ #[.agg #[.string x.no, .int .i64 x.place, .string x.set, .int .i64 x.time, .slice A n c], .pointer (some ⟨b, 0, none⟩)] W _
  cases he : (x.no.toList == s.toList)
  all_goals
    have HE := Lib.hid (show decide (x.no = s) = _ from (beqS _ _).symm.trans he)
    go_enter Tryz.func182, Tryz.ntmps182
    go_wp2
    go_ret
    exact ⟨ret_bool (by rw [HE.out]; rfl), (Below.refl _ _).alloc (Nat.le_refl _) _⟩
/-- Where no scene is without a number, the reference finds what the number says. -/
theorem scnIdx_ref {ls : List (Scene × Value)} (h : ∀ y ∈ ls, ¬ y.1.no = ⟨#[]⟩) (s : ByteArray) : (ls.findIdx? fun x => decide (x.1.no = s) && !s.toList.isEmpty) = scnIdx (ls.map (·.1)) s := by
  unfold scnIdx
  rw [List.findIdx?_map]
  refine findIdx_congr fun x hx => ?_
  show _ = decide (x.1.no = s)
  by_cases hs : x.1.no = s
  · subst hs
    have : x.1.no.toList.isEmpty = false := by rw [empty_dec]; exact decide_eq_false (h x hx)
    simp [this]
  · simp [hs]
set_option maxRecDepth 100000 in
set_option maxHeartbeats 1000000 in
theorem sceneAt_c {F : Nat → Prop} (t : ByteArray) (ls : List (Scene × Value)) (v : Value) (s : ByteArray) (w : World) (h : ScL w F t ls v) (hn : ∀ y ∈ ls, ¬ y.1.no = ⟨#[]⟩) :
    Calls Tryz.prog 106 #[.agg #[.string t, v], .string s] w fun e w' => e = .returned (.int .i64 (idxV (scnIdx (ls.map (·.1)) s))) ∧ Below w.heap.size w w' := by
  obtain ⟨A, c, rfl, hlc, hcm⟩ := h.sli.form
  have hB := ((Below.refl w.heap.size w).alloc (Nat.le_refl _) (.cells #[.string t, .slice A ls.length c] 44)).alloc (by simp) (.cells #[.string s] 9)
  have h1 := h.below hB
  have HI := Lib.hid (idxScene_c ls A c 182 #[.pointer (some ⟨w.heap.size + 1, 0, none⟩)] (fun y => decide (y.no = s) && !s.toList.isEmpty) ((w.alloc (.cells #[.string t, .slice A ls.length c] 44)).alloc (.cells #[.string s] 9)) h1.sli h1.lt (sli_forms h1.par) h1.len
    (sceneAt1_p s (w.heap.size + 1) _ (by
      have h := (str_cells (heap_alloc_new (w.alloc (.cells #[.string t, .slice A ls.length c] 44)) (.cells #[.string s] 9))).1 0
      rw [World.size_alloc] at h
      exact h) (by simp)))
  have HE := Lib.hid (scnIdx_ref hn s)
  have HB := Lib.hid hB
  clear h hn h1 hB
  go_enter Tryz.func106, Tryz.ntmps106
  go_wp2_with fail
  refine HI.out.mono ?_
  rintro e w' ⟨rfl, hb⟩
  have HB2 := Lib.hid (HB.out.trans (hb.mono HB.out.size))
  clear hb HI
  rw [HE.out]
  go_wp2
  go_ret
  exact ⟨rfl, HB2.out⟩
end Go.Proofs.YtmefjkfjpgblcaaGreatDoor

/- take.coversFault, walked. -/
namespace Go.Proofs.YtmefjkfjpgblcaaGreatDoor
set_option linter.unusedVariables false
open Go.RowKit Go.Sort

def CvrP (n : Nat) (t : Tk) (w : World) (e : Ending) (w' : World) : Prop := e = .returned (.int .i64 (covsE n t.tin t.tout none t.covers)) ∧ Below w.heap.size w w'
theorem CvrP.mk {n : Nat} {t : Tk} {q : Int} {w w' : World} (h : covsE n t.tin t.tout none t.covers = q) (hb : Below w.heap.size w w') : CvrP n t w (.returned (.int .i64 q)) w' := ⟨by rw [h], hb⟩
theorem covOne_8 {n : Nat} {a b : Int} {p : Option Cov} {c : Cov} (h : c.para < 0 ∨ (n : Int) ≤ c.para) : covOne n a b p c = 8 := if_pos h
theorem covOne_7 {n : Nat} {a b : Int} {p : Option Cov} {c : Cov} (h : ¬ (c.para < 0 ∨ (n : Int) ≤ c.para)) (h2 : prevBad p c = true) : covOne n a b p c = 7 := by unfold covOne; rw [if_neg h, if_pos h2]
theorem covOne_1 {n : Nat} {a b : Int} {p : Option Cov} {c : Cov} (h : ¬ (c.para < 0 ∨ (n : Int) ≤ c.para)) (h2 : prevBad p c = false) (h3 : c.tin < a ∨ c.tout ≤ c.tin ∨ b < c.tout) : covOne n a b p c = 1 := by unfold covOne; rw [if_neg h, if_neg (by rw [h2]; decide), if_pos h3]
theorem covOne_0 {n : Nat} {a b : Int} {p : Option Cov} {c : Cov} (h : ¬ (c.para < 0 ∨ (n : Int) ≤ c.para)) (h2 : prevBad p c = false) (h3 : ¬ (c.tin < a ∨ c.tout ≤ c.tin ∨ b < c.tout)) : covOne n a b p c = 0 := by unfold covOne; rw [if_neg h, if_neg (by rw [h2]; decide), if_neg h3]
set_option maxRecDepth 100000 in
set_option maxHeartbeats 8000000 in
theorem coversFault_c {F : Nat → Prop} (t : Tk) (v : Value) (n : Nat) (w : World) (hv : Sli covR w F t.covers v) (hF : ∀ b, F b → b < w.heap.size) (hl : t.covers.length ≤ 300000) :
    Calls Tryz.prog 98 #[.agg (t.cells v).toArray, .int .i64 (n : Int)] w (CvrP n t w) := by
  obtain ⟨A, c, rfl, hlc, hcm⟩ := hv.form
  obtain ⟨L, hL⟩ : ∃ L, t.covers.length = L := ⟨_, rfl⟩
  have HL := Lib.hid hL
  rw [hL] at hv hlc hl ⊢
  have HV := Lib.hid hv
  have HF := Lib.hid hF
  rw [show (t.cells (.slice A L c)).toArray = #[.string t.scene, .string t.setup, .int .i64 t.number, .string t.roll, .string t.sound, .int .i64 t.tin, .int .i64 t.tout, .bool t.good, .slice A L c] from rfl]
  have HB := Lib.hid ((Below.refl w.heap.size w).alloc (Nat.le_refl _) (.cells #[.string t.scene, .string t.setup, .int .i64 t.number, .string t.roll, .string t.sound, .int .i64 t.tin, .int .i64 t.tout, .bool t.good, .slice A L c] 122))
  clear hL hv hF
  go_enter Tryz.func98, Tryz.ntmps98
  go_upto_region 1 with (fail)
  have hz1 : w.heap.size < (w.alloc (.cells #[.string t.scene, .string t.setup, .int .i64 t.number, .string t.roll, .string t.sound, .int .i64 t.tin, .int .i64 t.tout, .bool t.good, .slice A L c] 122)).heap.size := by simp
  have hnew := heap_alloc_new w (.cells #[.string t.scene, .string t.setup, .int .i64 t.number, .string t.roll, .string t.sound, .int .i64 t.tin, .int .i64 t.tout, .bool t.good, .slice A L c] 122)
  generalize w.alloc (.cells #[.string t.scene, .string t.setup, .int .i64 t.number, .string t.roll, .string t.sound, .int .i64 t.tin, .int .i64 t.tout, .bool t.good, .slice A L c] 122) = w1 at *
  have HY := Lib.hid (fun (W : World) (hb : Below w1.heap.size w1 W) => show W.cell? ⟨w.heap.size, 5, none⟩ = some (.int .i64 t.tin) ∧ W.cell? ⟨w.heap.size, 6, none⟩ = some (.int .i64 t.tout) ∧ W.cell? ⟨w.heap.size, 8, none⟩ = some (.slice A L c) by
    obtain ⟨y, _⟩ := str_cells ((hb.block w.heap.size hz1).trans hnew)
    exact ⟨y 5, y 6, y 8⟩)
  obtain ⟨_, _, y8⟩ := HY.out w1 (Below.refl _ _)
  have HV1 := Lib.hid (HV.out.below HB.out HF.out)
  have HF1 := Lib.hid (fun b (hb : F b) => show b < w1.heap.size by have := HF.out b hb; omega)
  clear hnew
  go_wp2
  go_loopw [10] (fun i wr => ∃ k : Nat, k ≤ L ∧ i = .int .i64 k ∧ Hid (covsE n t.tin t.tout none t.covers = covsE n t.tin t.tout (prevOf t.covers k) (t.covers.drop k)) ∧ Hid (Below w1.heap.size w1 wr)) (fun i _ => L - (intOf i).toNat)
  case atStart => exact ⟨0, Nat.zero_le _, rfl, Lib.hid rfl, Below.refl _ _⟩
  case round =>
    clear y8
    obtain ⟨k, hk, rfl, HE, HBr⟩ := hrel
    have hzr := HBr.out.size
    have HBW := Lib.hid (HB.out.trans (HBr.out.mono (by omega)))
    by_cases hlt : k < L
    · have hkl : k < t.covers.length := by rw [HL.out]; exact hlt
      obtain ⟨b, off, rfl, hfb, c0, c1, c2, c3⟩ := covAt (HV1.out.below HBr.out HF1.out) k hkl
      have hbw : b < wr.heap.size := by have := HF1.out b hfb; omega
      have HST := Lib.hid (HE.out.trans (covsE_step n t.tin t.tout t.covers k hkl))
      have HPV := Lib.hid (show prevOf t.covers k = if k = 0 then none else t.covers[k - 1]? from rfl)
      generalize (t.covers[k]'hkl) = x at *
      generalize prevOf t.covers k = pv at *
      have HB5 := Lib.hid (HBr.out.alloc hzr (.cells #[.int .i64 x.para, .int .i64 x.tin, .int .i64 x.tout, .bool x.on] 124))
      have hzz : (wr.alloc (.cells #[.int .i64 x.para, .int .i64 x.tin, .int .i64 x.tout, .bool x.on] 124)).heap.size = wr.heap.size + 1 := by simp
      have hnw := heap_alloc_new wr (.cells #[.int .i64 x.para, .int .i64 x.tin, .int .i64 x.tout, .bool x.on] 124)
      clear hkl HE
      go_upto_region 4 with (fail)
      generalize wr.alloc (.cells #[.int .i64 x.para, .int .i64 x.tin, .int .i64 x.tout, .bool x.on] 124) = w5 at *
      obtain ⟨gx, _⟩ := str_cells hnw
      have d0 : w5.cell? ⟨wr.heap.size, 0, none⟩ = some (.int .i64 x.para) := gx 0
      have d1 : w5.cell? ⟨wr.heap.size, 1, none⟩ = some (.int .i64 x.tin) := gx 1
      have d2 : w5.cell? ⟨wr.heap.size, 2, none⟩ = some (.int .i64 x.tout) := gx 2
      obtain ⟨y5, y6, y8⟩ := HY.out w5 HB5.out
      have HBX := Lib.hid (HB.out.trans (HB5.out.mono (by omega)))
      clear gx hnw c0 c1 c2 c3
      generalize wr.heap.size = X at *
      by_cases p1 : x.para < 0
      · have HR := Lib.hid (HST.out.trans (by rw [covOne_8 (.inl p1), if_pos (by decide)]))
        go_wp2
        go_ret
        exact CvrP.mk HR.out HBX.out
      by_cases p2 : (n : Int) ≤ x.para
      · have HR := Lib.hid (HST.out.trans (by rw [covOne_8 (.inr p2), if_pos (by decide)]))
        have p1' : 0 ≤ x.para := by omega
        clear p1
        go_wp2
        go_ret
        exact CvrP.mk HR.out HBX.out
      have HP := Lib.hid (show ¬ (x.para < 0 ∨ (n : Int) ≤ x.para) by omega)
      have p1' : 0 ≤ x.para := by omega
      have p2' : x.para < (n : Int) := by omega
      have hX5 : X < w5.heap.size := World.block_lt_of_cell? w5 ⟨X, 0, none⟩ d0
      clear p1 p2
      go_upto_region 6 with (fail)
      go_cut [25] (fun s25 wx => s25 = .bool (prevBad pv x) ∧ Hid (Below w5.heap.size w5 wx))
      case first =>
        by_cases hk0 : k = 0
        · subst hk0
          have hpb : prevBad pv x = false := by rw [HPV.out, if_pos rfl]; rfl
          go_quiet (fail)
          go_wp2
          go_meet
          exact ⟨by rw [hpb], Lib.hid (below_drewN (Below.refl _ _) _)⟩
        · obtain ⟨K, rfl⟩ : ∃ K, k = K + 1 := ⟨k - 1, by omega⟩
          have hKl : K < t.covers.length := by rw [HL.out]; omega
          obtain ⟨b', off', hA, hfb', e0, e1, e2, e3⟩ := covAt (HV1.out.below HB5.out HF1.out) K hKl
          have hpz : pv = some (t.covers[K]'hKl) := by rw [HPV.out, if_neg hk0, Nat.add_sub_cancel, List.getElem?_eq_getElem hKl]
          generalize (t.covers[K]'hKl) = z at *
          injection hA with hA
          injection hA with hA1 hA2
          subst hA1
          subst hA2
          have q1 : (0 : Int) ≤ K := by omega
          have q2 : (0 : Int) < (K : Int) + 1 := by omega
          have q3 : (K : Int) < (L : Int) := by omega
          have q4 : IntKind.i64.wrap (K : Int) = K := IntWalk.i64_in _ (by omega)
          have q5 : IntKind.i64.wrap ((K : Int) + 1 - 1) = K := by rw [show (K : Int) + 1 - 1 = K by omega]; exact q4
          clear hk0 hKl
          by_cases b1 : x.para ≤ z.para
          · have hpb : prevBad pv x = true := by rw [hpz]; show (decide (x.para ≤ z.para) || _) = true; rw [decide_eq_true b1]; rfl
            go_quiet (fail)
            go_wp2
            go_meet
            exact ⟨by rw [hpb], Lib.hid (below_drewN (Below.refl _ _) _)⟩
          · have b1' : z.para < x.para := by omega
            by_cases b2 : x.tin < z.tout
            · have hpb : prevBad pv x = true := by rw [hpz]; show (_ || decide (x.tin < z.tout)) = true; rw [decide_eq_true b2, Bool.or_true]
              clear b1
              go_quiet (fail)
              go_wp2
              go_meet
              exact ⟨by rw [hpb], Lib.hid (below_drewN (Below.refl _ _) _)⟩
            · have hpb : prevBad pv x = false := by rw [hpz]; show (decide (x.para ≤ z.para) || decide (x.tin < z.tout)) = false; rw [decide_eq_false b1, decide_eq_false b2]; rfl
              have b2' : z.tout ≤ x.tin := by omega
              clear b1 b2
              go_quiet (fail)
              go_wp2
              go_meet
              exact ⟨by rw [hpb, decide_eq_false (show ¬ x.para ≤ z.para by omega), decide_eq_false (show ¬ x.tin < z.tout by omega)] <;> rfl, Lib.hid (below_drewN (Below.refl _ _) _)⟩
      case rest =>
        obtain ⟨rfl, HB6⟩ := hcut
        have z1 : wc.cell? ⟨X, 1, none⟩ = some (.int .i64 x.tin) := (HB6.out.cell (p := ⟨X, 1, none⟩) hX5).trans d1
        have z2 : wc.cell? ⟨X, 2, none⟩ = some (.int .i64 x.tout) := (HB6.out.cell (p := ⟨X, 2, none⟩) hX5).trans d2
        have HB7 := Lib.hid (HB5.out.trans (HB6.out.mono HB5.out.size))
        obtain ⟨v5, v6, _⟩ := HY.out wc HB7.out
        have HBY := Lib.hid (HB.out.trans (HB7.out.mono (by omega)))
        clear d0 d1 d2 y5 y6 y8
        cases hpb : prevBad pv x with
        | true =>
          have HR := Lib.hid (HST.out.trans (by rw [covOne_7 HP.out hpb, if_pos (by decide)]))
          clear hpb
          go_wp2
          go_ret
          exact CvrP.mk HR.out HBY.out
        | false =>
          by_cases r1 : x.tin < t.tin
          · have HR := Lib.hid (HST.out.trans (by rw [covOne_1 HP.out hpb (.inl r1), if_pos (by decide)]))
            clear hpb
            go_wp2
            go_ret
            exact CvrP.mk HR.out HBY.out
          by_cases r2 : x.tout ≤ x.tin
          · have HR := Lib.hid (HST.out.trans (by rw [covOne_1 HP.out hpb (.inr (.inl r2)), if_pos (by decide)]))
            have r1' : t.tin ≤ x.tin := by omega
            clear hpb r1
            go_wp2
            go_ret
            exact CvrP.mk HR.out HBY.out
          by_cases r3 : t.tout < x.tout
          · have HR := Lib.hid (HST.out.trans (by rw [covOne_1 HP.out hpb (.inr (.inr r3)), if_pos (by decide)]))
            have r1' : t.tin ≤ x.tin := by omega
            have r2' : x.tin < x.tout := by omega
            clear hpb r1 r2
            go_wp2
            go_ret
            exact CvrP.mk HR.out HBY.out
          have HR := Lib.hid (HST.out.trans (by rw [covOne_0 HP.out hpb (by omega), if_neg (fun h => h rfl)]))
          have r1' : t.tin ≤ x.tin := by omega
          have r2' : x.tin < x.tout := by omega
          have r3' : x.tout ≤ t.tout := by omega
          clear hpb r1 r2 r3
          go_wp2
          go_roundw
          case rel => exact ⟨k + 1, by omega, intNum, HR.out, HB7.out⟩
          case measure => simp [intOf]; omega
    · have HR := Lib.hid (show covsE n t.tin t.tout none t.covers = 0 by rw [HE.out]; exact covsE_end n t.tin t.tout t.covers k (by rw [HL.out]; exact hlt))
      go_wp2
      go_ret
      exact CvrP.mk HR.out HBW.out
end Go.Proofs.YtmefjkfjpgblcaaGreatDoor

/- take.scenesOf, walked. -/
namespace Go.Proofs.YtmefjkfjpgblcaaGreatDoor
set_option linter.unusedVariables false
open Go.RowKit Go.Sort

theorem keyTc : PlainKey Tryz.prog 9 Value.string := plainKey_string Tryz.underlying9
theorem mpS_next {xs : List Scene} {k : Nat} (hk : k < xs.length) : mpS xs (k + 1) = up (mpS xs k) xs[k].no (.int .i64 (k : Int)) := by
  rw [mpS, List.getElem?_eq_getElem hk]; rfl
def ScOfP (xs : List Scene) (w : World) (e : Ending) (w' : World) : Prop := ∃ M, e = .returned (.map (some M)) ∧ w.heap.size ≤ M ∧ MapL w' M Value.string (mpS xs xs.length) ∧ Below w.heap.size w w'
set_option maxRecDepth 100000 in
set_option maxHeartbeats 1000000 in
theorem scenesOf_c {F : Nat → Prop} (t : ByteArray) (ls : List (Scene × Value)) (v : Value) (w : World) (h : ScL w F t ls v) :
    Calls Tryz.prog 92 #[.agg #[.string t, v]] w (ScOfP (ls.map (·.1)) w) := by
  obtain ⟨A, c, rfl, hlc, hcm⟩ := h.sli.form
  obtain ⟨L, hL⟩ : ∃ L, ls.length = L := ⟨_, rfl⟩
  have HL := Lib.hid hL
  have hL1 : L ≤ 1000000 := by have := h.len; omega
  have HFO := Lib.hid (sli_forms h.par)
  have HSL := Lib.hid h.sli
  have HF := Lib.hid h.lt
  rw [hL] at HSL hlc ⊢
  have HB := Lib.hid (((Below.refl w.heap.size w).alloc (Nat.le_refl _) (.cells #[.string t, .slice A L c] 44)).alloc (by simp) (.map #[] 0))
  have HM := Lib.hid (MapL.made (κ := ByteArray) (mk := Value.string) (w.alloc (.cells #[.string t, .slice A L c] 44)))
  rw [show (w.alloc (.cells #[.string t, .slice A L c] 44)).heap.size = w.heap.size + 1 by simp] at HM
  have hmm := @run_makeMap Tryz.prog
  clear h hL
  go_enter Tryz.func92, Tryz.ntmps92
  go_wp2
  go_loopw [10] (fun i wr => ∃ k : Nat, k ≤ L ∧ i = .int .i64 k ∧ w.heap.size + 1 < wr.heap.size ∧ Hid (MapL wr (w.heap.size + 1) Value.string (mpS (ls.map (·.1)) k)) ∧ Hid (Below w.heap.size w wr)) (fun i _ => L - (intOf i).toNat)
  case atStart => exact ⟨0, Nat.zero_le _, rfl, by simp, HM.out, HB.out⟩
  case round =>
    clear HM HB hmm
    obtain ⟨k, hk, rfl, hz, HM, HB⟩ := hrel
    by_cases hlt : k < L
    · have hk2 : k < ls.length := by rw [HL.out]; exact hlt
      obtain ⟨b, off, rfl, hfb, c0, c1, c2, c3, c4⟩ := scAt (HSL.out.below HB.out HF.out) k hk2
      obtain ⟨A4, n4, cc4, h4⟩ := HFO.out _ (List.getElem_mem hk2)
      have hst := mpS_next (xs := ls.map (·.1)) (k := k) (by rw [List.length_map]; exact hk2)
      rw [List.getElem_map] at hst
      rw [h4] at c4
      have hbw : b < wr.heap.size := Nat.lt_of_lt_of_le (HF.out b hfb) (by omega)
      clear h4
      generalize (ls[k]'hk2).1 = x at *
      have HST := Lib.hid hst
      have HM5 := Lib.hid (HM.out.alloc (.cells #[.string x.no, .int .i64 x.place, .string x.set, .int .i64 x.time, .slice A4 n4 cc4] 119))
      have HB5 := Lib.hid (HB.out.alloc (by omega) (.cells #[.string x.no, .int .i64 x.place, .string x.set, .int .i64 x.time, .slice A4 n4 cc4] 119))
      clear hst hk2 HM HB
      go_wp2_with (at_mapUpdate; refine wpList_update_plain _ rfl _ _ _ 116 rfl 9 3 keyTc Tryz.underlying116 (w.heap.size + 1) (mpS (ls.map (·.1)) k) rfl HM5.out x.no rfl (.int .i64 (k : Int)) rfl ?_; intro w6 hm6 hg6; rw [← HST.out] at hm6; have hz6 := hg6.size; simp at hz6; have HB6 := Lib.hid (HB5.out.grown hg6 (by simp; omega) (fun b hb => by injection hb with hb; omega)); have HM6 := Lib.hid hm6; clear hm6 hg6)
      go_roundw
      case rel => exact ⟨k + 1, by omega, intNum, by omega, HM6.out, HB6.out⟩
      case measure => simp [intOf]; omega
    · have hkL : k = L := by omega
      subst hkL
      have HE := Lib.hid (show (ls.map (·.1)).length = k by rw [List.length_map, HL.out])
      go_wp2
      go_ret
      exact ⟨_, rfl, by omega, by rw [HE.out]; exact HM.out, HB.out⟩
end Go.Proofs.YtmefjkfjpgblcaaGreatDoor

