/- Texts packed: TcH. -/
import Derived.Test.YtmefjkfjpgblcaaGreatDoorSc39
import Derived.Test.YtmefjkfjpgblcaaGreatDoorSc02
/- The reference's error of takes, walked. -/
namespace Go.Proofs.YtmefjkfjpgblcaaGreatDoor
set_option linter.unusedVariables false
open Go.RowKit Go.Sort

theorem orE_0 {a b : Int} (h : a = 0) : orE a b = b := if_pos h
theorem orE_1 {a b : Int} (h : ¬ a = 0) : orE a b = a := if_neg h
set_option maxRecDepth 100000 in
set_option maxHeartbeats 16000000 in
theorem TakesFault_c {F F2 : Nat → Prop} (t : ByteArray) (ls : List (Scene × Value)) (v : Value) (A1 : Option Addr) (rl : List Roll) (c1 lo : Nat) (tl : List (Tk × Value)) (tv : Value) (w : World) (h : ScL w F t ls v) (hr : Rs w lo w.heap.size 5 Roll.cells A1 rl) (hlen : rl.length ≤ c1) (hlr : rl.length ≤ 1000000) (hc1 : c1 ≤ 140737488355328) (hnm : ∀ r ∈ rl, r.name.size ≤ 140737488355328) (ht : TkW w F2 tl tv) (hsp : SpLaid w) (hm : MaxLaid w) :
    Calls Tryz.prog 29 #[.agg #[.string t, v], .slice A1 rl.length c1, tv] w (CkTP ⟨t, ls.map (·.1)⟩ rl (tl.map (·.1)) w) := by
  obtain ⟨A, c, rfl, hlc, hcm⟩ := h.sli.form
  obtain ⟨A2, c2, rfl, hlc2, hcm2⟩ := ht.sli.form
  obtain ⟨n, hn⟩ : ∃ n, ls.length = n := ⟨_, rfl⟩
  obtain ⟨L, hL⟩ : ∃ L, tl.length = L := ⟨_, rfl⟩
  obtain ⟨R, hR⟩ : ∃ R, rl.length = R := ⟨_, rfl⟩
  have HL := Lib.hid hL
  have HSW := Lib.hid h
  have HRS := Lib.hid hr
  have HT := Lib.hid ht
  have hLb : L ≤ 1000000 := by have := ht.len; omega
  have hG0 := (pvStart w).new #[.string t, .slice A ls.length c] 44
  have HSF := Lib.hid (StoryFault_c t ls (.slice A ls.length c) (w.alloc (.cells #[.string t, .slice A ls.length c] 44)) (h.below hG0.bel) (sp_below hsp hG0.bel (Nat.le_refl _)) (max_alloc hm _))
  have HRF := Lib.hid (fun (W : World) (hW : Below w.heap.size w W) => RollsFault_c A1 rl c1 lo W ((hr.below hW (Nat.le_refl _)).more (Nat.le_refl _) hW.size) hlen hc1 hnm)
  have HTF := Lib.hid (fun (k : Nat) (hk : k < tl.length) (h0 : stE ⟨t, ls.map (·.1)⟩ = 0) (h1 : rollsFault rl = 0) (W : World) (hW : Below w.heap.size w W) => show Calls Tryz.prog 101 #[.agg #[.string t, .slice A n c], .slice A1 R c1, .slice A2 L c2, .int .i64 (k : Int)] W (RfP (ls.map (·.1)) rl ((tl.map (·.1)).take k) (tl[k]'hk).1 W) from by
    rw [← hn, ← hR, ← hL]
    exact takeFaultR_c t ls (.slice A ls.length c) A1 rl c1 lo tl (.slice A2 tl.length c2) k W (h.below hW) (fun y hy => (stE_dis h0).1 _ (List.mem_map_of_mem hy)) ((hr.below hW (Nat.le_refl _)).more (Nat.le_refl _) hW.size) hlr h1 (fun r hr => (rollsFault_ok rl h1 r hr).2.2) (ht.below hW) hk (by have := ht.len; omega))
  rw [hn] at hlc hG0 HSF HSW
  rw [hL] at hlc2 HT
  rw [hR] at HRF hlr hlen
  rw [hn, hL, hR]
  clear h hr ht hnm hsp hm hL hn hR
  have HG0 := Lib.hid hG0
  clear hG0
  go_enter Tryz.func29, Tryz.ntmps29
  go_upto_region 1 with (fail)
  have hXc := (HG0.out.cell (p := (w.heap.size, #[.string t, .slice A n c], 44)) (by simp)).1
  have x0 : (w.alloc (.cells #[.string t, .slice A n c] 44)).cell? ⟨w.heap.size, 0, none⟩ = some (.string t) := hXc 0
  have x1 : (w.alloc (.cells #[.string t, .slice A n c] 44)).cell? ⟨w.heap.size, 1, none⟩ = some (.slice A n c) := hXc 1
  clear hXc
  generalize w.alloc (.cells #[.string t, .slice A n c] 44) = w1 at *
  go_wp2_with fail
  refine HSF.out.mono ?_
  rintro e w2 ⟨rfl, hb2⟩
  have HG2 := Lib.hid (HG0.out.below hb2)
  clear hb2 HSF HG0 x0 x1
  go_wp2_with fail
  refine (HRF.out w2 HG2.out.bel).mono ?_
  rintro e w3' ⟨rfl, hb3⟩
  have HG3 := Lib.hid ((HG2.out.below hb3).new #[.int .i64 (stE ⟨t, ls.map (·.1)⟩), .int .i64 (rollsFault rl)] 28)
  clear hb3 HRF HG2
  obtain ⟨a, ha⟩ : ∃ a, stE ⟨t, ls.map (·.1)⟩ = a := ⟨_, rfl⟩
  obtain ⟨b, hb⟩ : ∃ b, rollsFault rl = b := ⟨_, rfl⟩
  rw [ha, hb] at HG3 ⊢
  have hYc := (HG3.out.cell (p := (w3'.heap.size, #[.int .i64 a, .int .i64 b], 28)) (by simp)).1
  have HOR := Lib.hid (orE_c a b w3'.heap.size 2 (w3'.alloc (.cells #[.int .i64 a, .int .i64 b] 28)) (hYc 0) (hYc 1))
  clear hYc
  go_wp2_with fail
  refine HOR.out.mono ?_
  rintro e w3 ⟨rfl, rfl⟩
  generalize hW : w3'.alloc (.cells #[.int .i64 a, .int .i64 b] 28) = w3
  have HG4 := Lib.hid (show PvG w [(w.heap.size, #[.string t, .slice A n c], 44)] w3 by rw [← hW]; exact HG3.out.less (by simp))
  clear HOR HG3 hW
  by_cases h1 : a = 0
  case neg =>
    have HR := Lib.hid ((tksChk_1 (rl := rl) (tl := tl.map (·.1)) (by rw [ha]; exact h1)).trans ha)
    have hne : (a != 0) = true := by rw [bne_iff_ne]; exact h1
    rw [orE_1 h1]
    clear h1 ha hb
    go_wp2
    go_ret
    exact CkTP.mk HR.out HG4.out.bel
  by_cases h2 : b = 0
  case neg =>
    have HR := Lib.hid ((tksChk_2 (tl := tl.map (·.1)) (ha.trans h1) (by rw [hb]; exact h2)).trans hb)
    have hne : (b != 0) = true := by rw [bne_iff_ne]; exact h2
    rw [orE_0 h1]
    clear h1 h2 ha hb
    go_wp2
    go_ret
    exact CkTP.mk HR.out HG4.out.bel
  rw [orE_0 h1, h2]
  have HA := Lib.hid (ha.trans h1)
  have HB := Lib.hid (hb.trans h2)
  clear h1 h2 ha hb
  by_cases h3 : 3000 < L
  · have HR := Lib.hid (tksChk_3 (tl := tl.map (·.1)) HA.out HB.out (by rw [List.length_map, HL.out]; exact h3))
    have h3' : (3000 : Int) < L := by omega
    clear h3
    go_wp2
    go_ret
    exact CkTP.mk HR.out HG4.out.bel
  have HTC := Lib.hid (tksChk_4 (tl := tl.map (·.1)) HA.out HB.out (by rw [List.length_map, HL.out]; exact h3))
  have h3' : (L : Int) ≤ 3000 := by omega
  clear h3
  go_wp2
  go_loopw [24] (fun i wr => ∃ k : Nat, k ≤ L ∧ i = .int .i64 k ∧ Hid (tksChk ⟨t, ls.map (·.1)⟩ rl (tl.map (·.1)) = tcsE (ls.map (·.1)) rl ((tl.map (·.1)).take k) ((tl.map (·.1)).drop k)) ∧ Hid (PvG w [(w.heap.size, #[.string t, .slice A n c], 44)] wr)) (fun i _ => L - (intOf i).toNat)
  case atStart => exact ⟨0, Nat.zero_le _, rfl, HTC.out, HG4.out⟩
  case round =>
    clear HTC HG4
    obtain ⟨k, hk, rfl, HE, HG⟩ := hrel
    by_cases hlt : k < L
    · have hk2 : k < tl.length := by rw [HL.out]; exact hlt
      have HF := Lib.hid (HTF.out k hk2 HA.out HB.out wr HG.out.bel)
      have hXc := (HG.out.cell (p := (w.heap.size, #[.string t, .slice A n c], 44)) (by simp)).1
      have x0 : wr.cell? ⟨w.heap.size, 0, none⟩ = some (.string t) := hXc 0
      have x1 : wr.cell? ⟨w.heap.size, 1, none⟩ = some (.slice A n c) := hXc 1
      have hkm : k < (tl.map (·.1)).length := by rw [List.length_map]; exact hk2
      have hst := HE.out.trans (tcsE_step (ls.map (·.1)) rl (tl.map (·.1)) k hkm)
      rw [List.getElem_map] at hst
      have HST := Lib.hid hst
      generalize (tl[k]'hk2).1 = x at *
      clear hst hkm hk2 hXc HE
      go_wp2_with fail
      refine HF.out.mono ?_
      rintro e w5 ⟨rfl, hb5⟩
      have HG5 := Lib.hid (HG.out.below hb5)
      clear hb5 HF HG x0 x1
      obtain ⟨ce, hce⟩ : ∃ ce, tcE (ls.map (·.1)) rl ((tl.map (·.1)).take k) x = ce := ⟨_, rfl⟩
      rw [hce] at HST ⊢
      clear hce
      by_cases h0 : ce = 0
      · have HR := Lib.hid (rnd0 HST.out h0)
        rw [h0]
        clear h0
        go_wp2
        go_roundw
        case rel => exact ⟨k + 1, by omega, intNum, HR.out, HG5.out⟩
        case measure => simp [intOf]; omega
      · have HR := Lib.hid (rnd HST.out rfl h0)
        have hne : (ce != 0) = true := by rw [bne_iff_ne]; exact h0
        clear h0
        go_wp2
        go_ret
        exact CkTP.mk HR.out HG5.out.bel
    · have HR := Lib.hid (HE.out.trans (tcsE_end _ _ _ k (by rw [List.length_map, HL.out]; exact hlt)))
      have hB := HG.out.bel
      go_wp2
      go_ret
      exact CkTP.mk HR.out hB
end Go.Proofs.YtmefjkfjpgblcaaGreatDoor

