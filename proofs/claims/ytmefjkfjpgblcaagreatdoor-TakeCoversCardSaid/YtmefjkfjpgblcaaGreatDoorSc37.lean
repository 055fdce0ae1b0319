/- Texts packed: TcF. -/
import Derived.Test.YtmefjkfjpgblcaaGreatDoorSc34
/- take.CheckTakes, walked. -/
namespace Go.Proofs.YtmefjkfjpgblcaaGreatDoor
set_option linter.unusedVariables false
open Go.RowKit Go.Sort

abbrev CkG (w : World) (pre : List Tk) (mb : Nat) (m : List (ByteArray × Value)) (P : List Pb) (wx : World) : Prop := MN winR Value.string 149 (wins pre) w mb m P wx
set_option maxRecDepth 100000 in
set_option maxHeartbeats 16000000 in
theorem CheckTakes_c {F F2 : Nat → Prop} (t : ByteArray) (ls : List (Scene × Value)) (v : Value) (A1 : Option Addr) (rl : List Roll) (c1 lo : Nat) (tl : List (Tk × Value)) (tv : Value) (w : World) (h : ScL w F t ls v) (hr : Rs w lo w.heap.size 5 Roll.cells A1 rl) (hlen : rl.length ≤ 1000000) (hnm : ∀ r ∈ rl, r.name.size ≤ 140737488355328) (ht : TkW w F2 tl tv) (hm : MaxLaid w) :
    Calls Tryz.prog 28 #[.agg #[.string t, v], .slice A1 rl.length c1, tv] w (CkTP ⟨t, ls.map (·.1)⟩ rl (tl.map (·.1)) w) := by
  obtain ⟨A, c, rfl, hlc, hcm⟩ := h.sli.form
  obtain ⟨A2, c2, rfl, hlc2, hcm2⟩ := ht.sli.form
  obtain ⟨L, hL⟩ : ∃ L, tl.length = L := ⟨_, rfl⟩
  obtain ⟨n, hn⟩ : ∃ n, ls.length = n := ⟨_, rfl⟩
  obtain ⟨R, hR⟩ : ∃ R, rl.length = R := ⟨_, rfl⟩
  have HL := Lib.hid hL
  have HN := Lib.hid hn
  have HRL := Lib.hid hR
  have HNM := Lib.hid hnm
  have HT := Lib.hid ht
  have HRS := Lib.hid hr
  have hLb : L ≤ 1000000 := by have := ht.len; omega
  obtain ⟨i0, hi0, hz0, hz1, hz2⟩ := info_parts (show (Tryz.prog.info? 149).map (fun i => (i.zero, i.size, i.bytes)) = some (some (.agg #[.int .i64 0, .int .i64 0]), 2, 16) by kernel_rfl)
  have HBX := Lib.hid ((Below.refl w.heap.size w).alloc (Nat.le_refl _) (.cells #[.string t, .slice A ls.length c] 44))
  have h1 := h.below HBX.out
  have HSW := Lib.hid h
  have HS1 := Lib.hid h1
  have HXB := Lib.hid (heap_alloc_new w (.cells #[.string t, .slice A ls.length c] 44))
  have hXlt : w.heap.size < (w.alloc (.cells #[.string t, .slice A ls.length c] 44)).heap.size := by simp
  have HM1 := Lib.hid (max_alloc hm (.cells #[.string t, .slice A ls.length c] 44))
  obtain ⟨x0, x1⟩ : (w.alloc (.cells #[.string t, .slice A ls.length c] 44)).cell? ⟨w.heap.size, 0, none⟩ = some (.string t) ∧ (w.alloc (.cells #[.string t, .slice A ls.length c] 44)).cell? ⟨w.heap.size, 1, none⟩ = some (.slice A ls.length c) := by
    obtain ⟨y, _⟩ := str_cells HXB.out
    exact ⟨y 0, y 1⟩
  have HSF := Lib.hid (scriptFaultP_c t ls (.slice A ls.length c) (w.alloc (.cells #[.string t, .slice A ls.length c] 44)) h1 HM1.out)
  rw [hn] at hlc
  rw [hn] at HBX HS1 HXB hXlt HM1 x0 x1 HSF
  rw [hL] at hlc2 HT
  rw [hn] at HSW
  rw [hn, hL, hR]
  clear h h1 hm hr hnm ht hL hn
  go_enter Tryz.func28, Tryz.ntmps28
  go_upto_region 1 with (fail)
  generalize hW1 : w.alloc (.cells #[.string t, .slice A n c] 44) = w1 at *
  generalize hX : w.heap.size = X at *
  clear hW1
  go_wp2_with fail
  refine HSF.out.mono ?_
  rintro e w2 ⟨rfl, hb2⟩
  have hX2 : X < w2.heap.size := Nat.lt_of_lt_of_le hXlt hb2.size
  have HB2 := Lib.hid (HBX.out.trans (hb2.mono (by omega)))
  have HXB2 := Lib.hid ((hb2.block X hXlt).trans HXB.out)
  have HS2 := Lib.hid (HS1.out.below hb2)
  have y1 : w2.cell? ⟨X, 1, none⟩ = some (.slice A n c) := (str_cells HXB2.out).1 1
  have y0 : w2.cell? ⟨X, 0, none⟩ = some (.string t) := (str_cells HXB2.out).1 0
  clear hb2 HSF HM1 HS1 HXB HBX x0 x1
  by_cases hst : stE ⟨t, ls.map (·.1)⟩ = 0
  case neg =>
    have HR := Lib.hid (tksChk_1 (rl := rl) (tl := tl.map (·.1)) hst)
    have hne : (stE ⟨t, ls.map (·.1)⟩ != 0) = true := by rw [bne_iff_ne]; exact hst
    clear hst
    generalize stE ⟨t, ls.map (·.1)⟩ = ce at *
    go_wp2
    go_ret
    exact CkTP.mk HR.out (by rw [hX]; exact HB2.out)
  have HDIS := Lib.hid (stE_dis hst)
  have HST0 := Lib.hid hst
  have HCR := Lib.hid (CheckRolls_c A1 rl c1 lo w2 ((HRS.out.below HB2.out (Nat.le_refl _)).more (Nat.le_refl _) (by omega)) (by omega) HNM.out)
  rw [hR] at HCR
  rw [hst]
  clear hst
  go_wp2_with fail
  refine HCR.out.mono ?_
  rintro e w3 ⟨rfl, hb3⟩
  have hX3 : X < w3.heap.size := Nat.lt_of_lt_of_le hX2 hb3.size
  have HB3 := Lib.hid (HB2.out.trans (hb3.mono (by omega)))
  have HXB3 := Lib.hid ((hb3.block X hX2).trans HXB2.out)
  have HS3 := Lib.hid (HS2.out.below hb3)
  have z1 : w3.cell? ⟨X, 1, none⟩ = some (.slice A n c) := (str_cells HXB3.out).1 1
  have z0 : w3.cell? ⟨X, 0, none⟩ = some (.string t) := (str_cells HXB3.out).1 0
  clear hb3 HCR HB2 HXB2 HS2 y0 y1 hX2
  by_cases hrf : rollsFault rl = 0
  case neg =>
    have HR := Lib.hid (tksChk_2 (tl := tl.map (·.1)) HST0.out hrf)
    have hne : (rollsFault rl != 0) = true := by rw [bne_iff_ne]; exact hrf
    clear hrf
    generalize rollsFault rl = ce at *
    go_wp2
    go_ret
    exact CkTP.mk HR.out (by rw [hX]; exact HB3.out)
  have HRF := Lib.hid hrf
  rw [hrf]
  clear hrf
  by_cases h3 : 3000 < L
  · have HR := Lib.hid (tksChk_3 (tl := tl.map (·.1)) HST0.out HRF.out (by rw [List.length_map, HL.out]; exact h3))
    have h3' : (3000 : Int) < L := by omega
    clear h3
    go_wp2
    go_ret
    exact CkTP.mk HR.out (by rw [hX]; exact HB3.out)
  have HTC := Lib.hid (tksChk_4 (tl := tl.map (·.1)) HST0.out HRF.out (by rw [List.length_map, HL.out]; exact h3))
  have h3' : (L : Int) ≤ 3000 := by omega
  clear h3
  have HSO := Lib.hid (scenesOf_c t ls (.slice A n c) w3 HS3.out)
  go_wp2_with fail
  refine HSO.out.mono ?_
  rintro e w4 ⟨M, rfl, hM, hMM, hb4⟩
  have hX4 : X < w4.heap.size := Nat.lt_of_lt_of_le hX3 hb4.size
  have hXM : X < M := by omega
  have hMl : M < w4.heap.size := hMM.lt
  have HB4 := Lib.hid (HB3.out.trans (hb4.mono (by omega)))
  have HXB4 := Lib.hid ((hb4.block X hX3).trans HXB3.out)
  have HM4 := Lib.hid (show MapL w4 M Value.string (mpS (ls.map (·.1)) (ls.map (·.1)).length) from hMM)
  have HS4 := Lib.hid (HS3.out.below hb4)
  clear hMM hb4 HSO HB3 HXB3 HS3 z0 z1 hX3 hM
  have HLK := Lib.hid (fun s => lk_scn_all (xs := ls.map (·.1)) HDIS.out.2 s)
  generalize mpS (ls.map (·.1)) (ls.map (·.1)).length = mps at *
  have G0 : CkG w [] (w4.heap.size + 1) [] [(w4.heap.size, mapP mkSl ([] : List (SlK × Value))), (M, mapP Value.string mps), (X, cellsP #[.string t, .slice A n c] 44)] ((w4.alloc (.map #[] 0)).alloc (.map #[] 0)) := by
    have hm2 := MapL.made (κ := ByteArray) (mk := Value.string) (w4.alloc (.map #[] 0))
    rw [show (w4.alloc (.map #[] 0)).heap.size = w4.heap.size + 1 by simp] at hm2
    have hm1 := (MapL.made (κ := SlK) (mk := mkSl) w4).alloc (.map #[] 0)
    refine MN.start (by rw [hX]; exact (HB4.out.alloc (by omega) _).alloc (by simp; omega) _) hm2 (by omega) (fun _ => rfl) (fun p hp => ?_)
    simp only [List.mem_cons, List.not_mem_nil, or_false] at hp
    rcases hp with rfl | rfl | rfl
    · exact ⟨hm1, by dsimp only; omega, by simp; omega, by dsimp only; omega⟩
    · exact ⟨(HM4.out.alloc _).alloc _, by dsimp only; omega, by simp; omega, by dsimp only; omega⟩
    · exact ⟨(Below.heap_alloc _ _ _ (by simp; omega)).trans ((Below.heap_alloc _ _ _ hX4).trans HXB4.out), by dsimp only; omega, by simp; omega, by dsimp only; omega⟩
  have hmm := @run_makeMap Tryz.prog
  go_upto_region 12 with (fail)
  clear hmm
  have HG0 := Lib.hid G0
  have hMs : M < w4.heap.size := hMl
  have HIX := Lib.hid (show ∀ s, lk mps s = ((scnIdx (ls.map (·.1)) s).map fun j : Nat => Value.int .i64 (j : Int)) from HLK.out)
  generalize hMq : w4.heap.size = Ms at *
  clear HLK G0 HM4 HS4 HXB4 HB4 hMl hX4 HST0 hMq
  go_wp2
  go_loopw [40] (fun i wr => ∃ (k : Nat) (ms : List (SlK × Value)) (mu : List (ByteArray × Value)), k ≤ L ∧ i = .int .i64 k ∧ Hid (tksChk ⟨t, ls.map (·.1)⟩ rl (tl.map (·.1)) = tcsE (ls.map (·.1)) rl ((tl.map (·.1)).take k) ((tl.map (·.1)).drop k)) ∧ Hid (SeenM ((tl.map (·.1)).take k) ms) ∧ Hid (CkG w ((tl.map (·.1)).take k) (Ms + 1) mu [(Ms, mapP mkSl ms), (M, mapP Value.string mps), (X, cellsP #[.string t, .slice A n c] 44)] wr)) (fun i _ => L - (intOf i).toNat)
  case atStart => exact ⟨0, [], [], Nat.zero_le _, rfl, HTC.out, SeenM.nil_, HG0.out⟩
  case round =>
    clear HG0 HTC
    obtain ⟨k, ms, mu, hk, rfl, HE, HSE, G⟩ := hrel
    by_cases hlt : k < L
    · have hk2 : k < tl.length := by rw [HL.out]; exact hlt
      obtain ⟨bt, off, rfl, hfb, c0, c1', c2', c3, c4, c5, c6, c7, c8⟩ := tkAt (HT.out.below G.out.bel).sli k hk2
      have hmem := List.getElem_mem hk2
      have hcv := HT.out.cov _ hmem
      obtain ⟨q1, q2, q3, q4, q5⟩ := HT.out.bd _ hmem
      obtain ⟨A8, cc8, h8, _, _⟩ := hcv.form
      rw [h8] at c8 hcv
      have hkm : k < (tl.map (·.1)).length := by rw [List.length_map]; exact hk2
      have hst := HE.out.trans (tcsE_step (ls.map (·.1)) rl (tl.map (·.1)) k hkm)
      have hgm : (tl.map (·.1))[k]'hkm = (tl[k]'hk2).1 := List.getElem_map ..
      have htk := List.take_succ_eq_append_getElem hkm
      rw [hgm] at hst htk
      have hbw : bt < wr.heap.size := Nat.lt_of_lt_of_le (HT.out.lt bt hfb) G.out.bel.size
      clear h8 hmem hgm hkm
      generalize (tl[k]'hk2).1 = x at *
      have HST := Lib.hid hst
      have HCV := Lib.hid hcv
      have HTK := Lib.hid htk
      have hpreL : ((tl.map (·.1)).take k).length ≤ 1000000 := by rw [List.length_take, List.length_map]; omega
      generalize (tl.map (·.1)).take k = pre at *
      have HG1 := Lib.hid ((G.out.new (tkCs x (.slice A8 x.covers.length cc8)) 122).new #[.string x.scene, .string x.setup, .int .i64 x.number] 142)
      have hB : X < wr.heap.size ∧ M < wr.heap.size ∧ Ms < wr.heap.size ∧ Ms + 1 < wr.heap.size := ⟨(G.out.plt (b := X) (f := cellsP #[.string t, .slice A n c] 44) (by simp)).2, (G.out.plt (b := M) (f := mapP Value.string mps) (by simp)).2, (G.out.plt (b := Ms) (f := mapP mkSl ms) (by simp)).2, G.out.map.lt⟩
      have HMM := Lib.hid (((G.out.pmap (b := M) (mk' := Value.string) (m' := mps) (by simp)).alloc (.cells (tkCs x (.slice A8 x.covers.length cc8)) 122)))
      have HIS := Lib.hid (HIX.out x.scene)
      have hzB : (wr.alloc (.cells (tkCs x (.slice A8 x.covers.length cc8)) 122)).heap.size = wr.heap.size + 1 := by simp
      rw [hzB] at HG1
      clear hst hcv htk hk2 hzB
      cases hsi : scnIdx (ls.map (·.1)) x.scene with
      | none =>
        have HR := Lib.hid (rnd HST.out (show tcE (ls.map (·.1)) rl pre x = 8 from if_pos hsi) (by decide))
        rw [hsi] at HIS
        clear hsi
        go_wp2_with (first | (at_lookup; refine wpList_lookup_plain _ rfl _ _ 116 true rfl 9 3 keyTc Tryz.underlying116 (.int .i64 0) (zeroIc _) M mps rfl HMM.out x.scene rfl ?_; rw [HIS.out]; simp only [if_true, Option.map_none, Option.getD_none, Option.isSome_none]) | fail)
        go_ret
        exact CkTP.mk HR.out HG1.out.bel
      | some j =>
      have HT1 := Lib.hid (show tcE (ls.map (·.1)) rl pre x = if setupB x.setup = false then 5 else if x.number < 1 ∨ 99 < x.number then 1 else if pre.any (sameT x) = true then 6 else if rollHas rl x.roll = false ∨ (¬ x.sound = ⟨#[]⟩ ∧ rollHas rl x.sound = false) then 8 else if withinB (rollGet rl x.roll) x.tin x.tout = false then 1 else if pre.any (busyT x) = true then 12 else covsE (((scnIdx (ls.map (·.1)) x.scene).bind fun k => ((ls.map (·.1))[k]?).map fun x => x.paras.length).getD 0) x.tin x.tout none x.covers from if_neg (by rw [hsi]; exact fun h => by cases h))
      have HSI := Lib.hid hsi
      rw [hsi] at HIS
      clear hsi
      go_wp2_with (first | (at_lookup; refine wpList_lookup_plain _ rfl _ _ 116 true rfl 9 3 keyTc Tryz.underlying116 (.int .i64 0) (zeroIc _) M mps rfl HMM.out x.scene rfl ?_; rw [HIS.out]; simp only [if_true, Option.map_some, Option.getD_some, Option.isSome_some]) | fail)
      refine (isSetup_c x.setup _ (by omega)).mono ?_
      rintro e w' ⟨rfl, rfl⟩
      generalize hW2 : (wr.alloc (.cells #[.string x.scene, .string x.setup, .int .i64 x.number, .string x.roll, .string x.sound, .int .i64 x.tin, .int .i64 x.tout, .bool x.good, .slice A8 x.covers.length cc8] 122)).alloc (.cells #[.string x.scene, .string x.setup, .int .i64 x.number] 142) = w2' at *
      have HG2 := Lib.hid (show CkG w pre (Ms + 1) mu [(wr.heap.size + 1, cellsP #[.string x.scene, .string x.setup, .int .i64 x.number] 142), (wr.heap.size, cellsP (tkCs x (.slice A8 x.covers.length cc8)) 122), (Ms, mapP mkSl ms), (M, mapP Value.string mps), (X, cellsP #[.string t, .slice A n c] 44)] w2' from by rw [← hW2]; exact HG1.out)
      clear HG1 hW2 HMM HIS
      cases hse : setupB x.setup with
      | false =>
        have HR := Lib.hid (rnd HST.out (HT1.out.trans (if_pos hse)) (by decide))
        clear hse
        go_wp2
        go_ret
        exact CkTP.mk HR.out HG2.out.bel
      | true =>
      have HT2 := Lib.hid (HT1.out.trans (if_neg (by rw [hse]; decide)))
      clear hse HT1
      obtain ⟨b0, b1, b2, b3, b4, b5, b6, b7, b8⟩ := tkCs_cells (HG2.out.prv (wr.heap.size, cellsP (tkCs x (.slice A8 x.covers.length cc8)) 122) (by simp)).1
      by_cases n1 : x.number < 1
      · have HR := Lib.hid (rnd HST.out (HT2.out.trans (if_pos (.inl n1))) (by decide))
        go_wp2
        go_ret
        exact CkTP.mk HR.out HG2.out.bel
      by_cases n2 : 99 < x.number
      · have HR := Lib.hid (rnd HST.out (HT2.out.trans (if_pos (.inr n2))) (by decide))
        have n1' : 1 ≤ x.number := by omega
        clear n1
        go_wp2
        go_ret
        exact CkTP.mk HR.out HG2.out.bel
      have HT3 := Lib.hid (HT2.out.trans (if_neg (by omega)))
      have n1' : 1 ≤ x.number := by omega
      have n2' : x.number ≤ 99 := by omega
      clear n1 n2 HT2
      obtain ⟨d0, d1, d2⟩ : w2'.cell? ⟨wr.heap.size + 1, 0, none⟩ = some (.string x.scene) ∧ w2'.cell? ⟨wr.heap.size + 1, 1, none⟩ = some (.string x.setup) ∧ w2'.cell? ⟨wr.heap.size + 1, 2, none⟩ = some (.int .i64 x.number) := by
        obtain ⟨y, _⟩ := str_cells (HG2.out.prv (wr.heap.size + 1, cellsP #[.string x.scene, .string x.setup, .int .i64 x.number] 142) (by simp)).1
        exact ⟨y 0, y 1, y 2⟩
      have HMS := Lib.hid (HG2.out.pmap (b := Ms) (mk' := mkSl) (m' := ms) (by simp))
      have HSA := Lib.hid (HSE.out.at_ x)
      cases hsm : pre.any (sameT x) with
      | true =>
        have HR := Lib.hid (rnd HST.out (HT3.out.trans (if_pos hsm)) (by decide))
        rw [hsm] at HSA
        clear hsm
        go_wp2_with (first | (at_lookup; refine wpList_lookup_wide (by rfl) _ _ 138 false rfl 4 wideSl undSl (.bool false) (zeroB _) Ms ms rfl HMS.out (slK x) rfl ?_; rw [HSA.out]; simp only [Bool.false_eq_true, if_false]) | fail)
        go_ret
        exact CkTP.mk HR.out HG2.out.bel
      | false =>
      have HT4 := Lib.hid (HT3.out.trans (if_neg (by rw [hsm]; decide)))
      rw [hsm] at HSA
      clear hsm HT3
      have HP3 := Lib.hid (fun (W : World) (hm : MapL W Ms mkSl (up ms (slK x) (.bool true))) (hg : w2'.grownBy W (some Ms)) => show CkG w pre (Ms + 1) mu [(Ms, mapP mkSl (up ms (slK x) (.bool true))), (wr.heap.size, cellsP (tkCs x (.slice A8 x.covers.length cc8)) 122), (M, mapP Value.string mps), (X, cellsP #[.string t, .slice A n c] 44)] W from
        (HG2.out.less (Q := [(Ms, mapP mkSl ms), (wr.heap.size, cellsP (tkCs x (.slice A8 x.covers.length cc8)) 122), (M, mapP Value.string mps), (X, cellsP #[.string t, .slice A n c] 44)]) (by intro p hp; simp only [List.mem_cons, List.not_mem_nil, or_false] at hp ⊢; rcases hp with rfl | rfl | rfl | rfl <;> simp)).poke (by simp only [List.mem_cons, List.not_mem_nil, or_false, forall_eq_or_imp, forall_eq]; omega) hm hg)
      go_wp2_with (first | (at_lookup; refine wpList_lookup_wide (by rfl) _ _ 138 false rfl 4 wideSl undSl (.bool false) (zeroB _) Ms ms rfl HMS.out (slK x) rfl ?_; rw [HSA.out]; simp only [Bool.false_eq_true, if_false]) | (at_mapUpdate; refine wpList_update_wide rfl _ _ _ 138 rfl 4 wideSl undSl Ms ms rfl HMS.out (slK x) rfl (.bool true) rfl ?_; intro w3' hm3' hg3'; have HG3 := Lib.hid (HP3.out w3' hm3' hg3'); obtain ⟨e0, e1, e2, e3, e4, e5, e6, e7, e8⟩ := tkCs_cells (HG3.out.prv (wr.heap.size, cellsP (tkCs x (.slice A8 x.covers.length cc8)) 122) (by simp)).1; clear hm3' hg3' b0 b1 b2 b3 b4 b5 b6 b7 b8 d0 d1 d2) | fail)
      have HSN := Lib.hid (HSE.out.up_ x)
      generalize up ms (slK x) (.bool true) = ms2 at *
      clear HP3 HG2 HMS HSA HSE
      have HRO := Lib.hid (rollOf_c A1 rl c1 lo x.roll w3' ((HRS.out.below HG3.out.bel (by rw [hX]; exact Nat.le_refl _)).more (Nat.le_refl _) (by have := HG3.out.size; omega)) (by omega))
      rw [hR] at HRO
      refine HRO.out.mono ?_
      rintro e w4' ⟨rfl, hb4'⟩
      have HG3b := Lib.hid (HG3.out.below hb4')
      obtain ⟨b0, b1, b2, b3, b4, b5, b6, b7, b8⟩ := tkCs_cells (HG3b.out.prv (wr.heap.size, cellsP (tkCs x (.slice A8 x.covers.length cc8)) 122) (by simp)).1
      have hB4 := (HG3b.out.plt (b := wr.heap.size) (f := cellsP (tkCs x (.slice A8 x.covers.length cc8)) 122) (by simp)).2
      have HG4 := Lib.hid (HG3b.out.new (rlCs (rollGet rl x.roll)) 114)
      clear HRO hb4' HG3 HG3b e0 e1 e2 e3 e4 e5 e6 e7 e8
      generalize hrg : rollGet rl x.roll = rg at *
      generalize hrh : rollHas rl x.roll = rh at *
      generalize hBB : wr.heap.size = B at *
      go_upto_region 27 with (fail)
      generalize hWA : w4'.alloc (.cells #[.string rg.name, .int .i64 rg.rate, .int .i64 rg.start, .int .i64 rg.long, .int .i64 rg.drift] 114) = wA
      have HG5 := Lib.hid (show CkG w pre (Ms + 1) mu [(w4'.heap.size, cellsP (rlCs rg) 114), (Ms, mapP mkSl ms2), (B, cellsP (tkCs x (.slice A8 x.covers.length cc8)) 122), (M, mapP Value.string mps), (X, cellsP #[.string t, .slice A n c] 44)] wA from by rw [← hWA]; exact HG4.out)
      clear hWA HG4 b0 b1 b2 b3 b4 b5 b6 b7 b8
      obtain ⟨g0, g1, g2, g3, g4, g5, g6, g7, g8⟩ := tkCs_cells (HG5.out.prv (B, cellsP (tkCs x (.slice A8 x.covers.length cc8)) 122) (by simp)).1
      have HRO2 := Lib.hid (rollOf_c A1 rl c1 lo x.sound wA ((HRS.out.below HG5.out.bel (by rw [hX]; exact Nat.le_refl _)).more (Nat.le_refl _) (by have := HG5.out.size; omega)) (by omega))
      rw [hR] at HRO2
      generalize w4'.heap.size = R1 at *
      go_wp2_with fail
      refine HRO2.out.mono ?_
      rintro e wB' ⟨rfl, hbB⟩
      have HG6 := Lib.hid ((HG5.out.below hbB).new (rlCs (rollGet rl x.sound)) 114)
      clear HRO2 hbB HG5 g0 g1 g2 g3 g4 g5 g6 g7 g8
      generalize hrk : rollHas rl x.sound = rk at *
      generalize rollGet rl x.sound = rs at *
      go_upto_region 28 with (fail)
      generalize hWB : wB'.alloc (.cells #[.string rs.name, .int .i64 rs.rate, .int .i64 rs.start, .int .i64 rs.long, .int .i64 rs.drift] 114) = wB
      have HG7 := Lib.hid (show CkG w pre (Ms + 1) mu [(R1, cellsP (rlCs rg) 114), (Ms, mapP mkSl ms2), (B, cellsP (tkCs x (.slice A8 x.covers.length cc8)) 122), (M, mapP Value.string mps), (X, cellsP #[.string t, .slice A n c] 44)] wB from by rw [← hWB]; exact HG6.out.less (fun p hp => List.mem_cons_of_mem _ hp))
      clear hWB HG6
      obtain ⟨g0, g1, g2, g3, g4, g5, g6, g7, g8⟩ := tkCs_cells (HG7.out.prv (B, cellsP (tkCs x (.slice A8 x.covers.length cc8)) 122) (by simp)).1
      cases rh with
      | false =>
        have HR := Lib.hid (rnd HST.out (HT4.out.trans (if_pos (.inl rfl))) (by decide))
        clear hrh hrk
        go_wp2
        go_ret
        exact CkTP.mk HR.out HG7.out.bel
      | true =>
      have HT5 : (Hid (tcE (ls.map (·.1)) rl pre x = if withinB rg x.tin x.tout = false then 1 else if pre.any (busyT x) = true then 12 else covsE (((scnIdx (ls.map (·.1)) x.scene).bind fun k => ((ls.map (·.1))[k]?).map fun x => x.paras.length).getD 0) x.tin x.tout none x.covers) ∧ (x.sound.toList.isEmpty = true ∨ (x.sound.toList.isEmpty = false ∧ rk = true))) ∨ (Hid (tcE (ls.map (·.1)) rl pre x = 8) ∧ x.sound.toList.isEmpty = false ∧ rk = false) := by
        by_cases hs : ¬ x.sound = ⟨#[]⟩ ∧ rk = false
        · exact .inr ⟨HT4.out.trans (if_pos (.inr hs)), Bool.eq_false_iff.2 (fun h => hs.1 ((empty_iff _).1 h)), hs.2⟩
        · refine .inl ⟨by
            refine HT4.out.trans (if_neg ?_)
            rintro (h | h)
            · cases h
            · exact hs h, ?_⟩
          cases he : x.sound.toList.isEmpty with
          | true => exact .inl rfl
          | false =>
            refine .inr ⟨rfl, ?_⟩
            cases hr : rk with
            | true => rfl
            | false => exact absurd ⟨fun e => (by rw [(empty_iff _).2 e] at he; cases he), hr⟩ hs
      have HRH := Lib.hid (show rollHas rl x.roll = true from hrh)
      have HRG := Lib.hid (show rollGet rl x.roll = rg from hrg)
      clear hrh hrk hrg HT4
      rcases HT5 with ⟨HT5, hsd⟩ | ⟨HT5, he, rfl⟩
      rotate_left
      · have HR := Lib.hid (rnd HST.out HT5.out (by decide))
        go_wp2
        go_ret
        exact CkTP.mk HR.out HG7.out.bel
      go_cut [95] (fun s95 wx => s95 = .bool false ∧ wB = wx)
      case first =>
        rcases hsd with he | ⟨he, rfl⟩
        all_goals
          go_wp2
          go_meet
          exact ⟨rfl, rfl⟩
      case rest =>
      obtain ⟨rfl, hwx⟩ := hcut
      subst hwx
      obtain ⟨r0, r1, r2, r3, r4⟩ := rlCs_cells (HG7.out.prv (R1, cellsP (rlCs rg) 114) (by simp)).1
      obtain ⟨t0, t1, t2, t3, t4⟩ := rate_bd HRF.out HRH.out
      rw [HRG.out] at t1 t2 t3 t4
      have HWI := Lib.hid (within_c rg.name rg.rate rg.start rg.long rg.drift x.tin x.tout wB (by omega) (by omega) (by omega) (by omega))
      rw [show (⟨rg.name, rg.rate, rg.start, rg.long, rg.drift⟩ : Roll) = rg from rfl] at HWI
      clear hsd t0 t1 t2 t3 t4 HRH HRG
      go_wp2_with fail
      refine HWI.out.mono ?_
      rintro e wC ⟨rfl, hbC⟩
      have HG8 := Lib.hid ((HG7.out.below hbC).less (Q := [(Ms, mapP mkSl ms2), (B, cellsP (tkCs x (.slice A8 x.covers.length cc8)) 122), (M, mapP Value.string mps), (X, cellsP #[.string t, .slice A n c] 44)]) (fun p hp => List.mem_cons_of_mem _ hp))
      clear hbC HWI HG7 g0 g1 g2 g3 g4 g5 g6 g7 g8 r0 r1 r2 r3 r4
      cases hwi : withinB rg x.tin x.tout with
      | false =>
        have HR := Lib.hid (rnd HST.out (HT5.out.trans (if_pos hwi)) (by decide))
        clear hwi
        go_wp2
        go_ret
        exact CkTP.mk HR.out HG8.out.bel
      | true =>
      have HT6 := Lib.hid (HT5.out.trans (if_neg (by rw [hwi]; decide)))
      clear hwi HT5
      obtain ⟨g0, g1, g2, g3, g4, g5, g6, g7, g8⟩ := tkCs_cells (HG8.out.prv (B, cellsP (tkCs x (.slice A8 x.covers.length cc8)) 122) (by simp)).1
      obtain ⟨vR, hvR⟩ : ∃ v, (lk mu x.roll).getD (.slice none 0 0) = v := ⟨_, rfl⟩
      have HVR := Lib.hid hvR
      have HOW := Lib.hid (HG8.out.at_ x.roll)
      rw [hvR] at HOW
      have hwl : (wins pre x.roll).length ≤ 1000000 := Nat.le_trans (wins_len _ _) hpreL
      have hCW := contWnd_c (F := fun q => q < wC.heap.size) (wins pre x.roll) vR 97 #[.pointer (some ⟨B, 0, none⟩)] (ovl x) wC (HOW.out.sliF (fun q hq => (HOW.out.block q hq).2)) (fun b hb => hb) (by omega) (checkTakes1_p x B wC g5 g6 (World.block_lt_of_cell? wC ⟨B, 5, none⟩ g5))
      rw [wins_busy] at hCW
      have HCW := Lib.hid hCW
      clear hCW hvR
      go_wp2_with (first | (at_lookup; refine wpList_lookup_plain _ rfl _ _ 139 false rfl 9 147 keyTc undWm (.slice none 0 0) (zeroWs _) (Ms + 1) mu rfl HG8.out.map x.roll rfl ?_; simp only [Bool.false_eq_true, if_false]; rw [HVR.out]) | fail)
      refine HCW.out.mono ?_
      rintro e wD ⟨rfl, hbD⟩
      have HG9 := Lib.hid (HG8.out.below hbD)
      clear hbD HCW HG8 HOW g0 g1 g2 g3 g4 g5 g6 g7 g8
      cases hbz : pre.any (busyT x) with
      | true =>
        have HR := Lib.hid (rnd HST.out (HT6.out.trans (if_pos hbz)) (by decide))
        clear hbz
        go_wp2
        go_ret
        exact CkTP.mk HR.out HG9.out.bel
      | false =>
      have HT7 := Lib.hid (HT6.out.trans (if_neg (by rw [hbz]; decide)))
      clear hbz HT6
      go_upto_region 34 with (fail)
      have HCX := Lib.hid (fun (W : World) (h : W.heap[B]? = wD.heap[B]?) => show W.cell? ⟨B, 3, none⟩ = some (.string x.roll) ∧ W.cell? ⟨B, 5, none⟩ = some (.int .i64 x.tin) ∧ W.cell? ⟨B, 6, none⟩ = some (.int .i64 x.tout) from by
        obtain ⟨_, _, _, g3, _, g5, g6, _, _⟩ := tkCs_cells (show cellsP (tkCs x (.slice A8 x.covers.length cc8)) 122 W.heap[B]? by rw [h]; exact (HG9.out.prv (B, cellsP (tkCs x (.slice A8 x.covers.length cc8)) 122) (by simp)).1)
        exact ⟨g3, g5, g6⟩)
      have HCE := Lib.hid (fun (W : World) (h : CkG w pre (Ms + 1) mu [(Ms, mapP mkSl ms2), (B, cellsP (tkCs x (.slice A8 x.covers.length cc8)) 122), (M, mapP Value.string mps), (X, cellsP #[.string t, .slice A n c] 44)] W) => show W.cell? ⟨B, 3, none⟩ = some (.string x.roll) ∧ W.cell? ⟨B, 5, none⟩ = some (.int .i64 x.tin) ∧ W.cell? ⟨B, 6, none⟩ = some (.int .i64 x.tout) from by
        obtain ⟨_, _, _, g3, _, g5, g6, _, _⟩ := tkCs_cells (h.prv (B, cellsP (tkCs x (.slice A8 x.covers.length cc8)) 122) (by simp)).1
        exact ⟨g3, g5, g6⟩)
      obtain ⟨ι, ff, hne, hff, hfS⟩ := family (fun W => W.cell? ⟨B, 3, none⟩ = some (.string x.roll) ∧ W.cell? ⟨B, 5, none⟩ = some (.int .i64 x.tin) ∧ W.cell? ⟨B, 6, none⟩ = some (.int .i64 x.tout)) wD (HCE.out _ HG9.out)
      have s0 := fun p => (hff p).1
      have s1 := fun p => (hff p).2.1
      have s2 := fun p => (hff p).2.2
      have HFS := Lib.hid hfS
      have HGD := Lib.hid HG9.out.drew
      have HGA := Lib.hid (HG9.out.drew.alloc (.cells #[.int .i64 x.tin, .int .i64 x.tout] 149))
      have hOA := HGA.out.at_ x.roll
      rw [HVR.out] at hOA
      have HOA := Lib.hid hOA
      have HWL := Lib.hid (show (wins pre x.roll).length + 1 ≤ maxLen ∧ ((wins pre x.roll).length + 1) * 16 ≤ 140737488355328 from ⟨by unfold maxLen; omega, by omega⟩)
      have HPG := Lib.hid (fun (W : World) (hg : (wD.drew.alloc (.cells #[.int .i64 x.tin, .int .i64 x.tout] 149)).grownBy W vR.ownBlock) => show W.heap[B]? = wD.heap[B]? ∧ MapL W (Ms + 1) Value.string mu from by
        rw [← HVR.out] at hg
        have hlt := (HG9.out.plt (b := B) (f := cellsP (tkCs x (.slice A8 x.covers.length cc8)) 122) (by simp)).2
        exact ⟨(HGA.out.prv_grown x.roll hg (b := B) (f := cellsP (tkCs x (.slice A8 x.covers.length cc8)) 122) (by simp)).trans (Below.heap_alloc _ _ _ hlt), HGA.out.map_grown x.roll hg⟩)
      have HPU := Lib.hid (fun (W W' : World) (v' : Value) (g : Nat) (hown : Own winR W w.heap.size w.heap.size 149 (wins pre x.roll ++ [(x.tin, x.tout)]) v') (hg : (wD.drew.alloc (.cells #[.int .i64 x.tin, .int .i64 x.tout] 149)).grownBy W vR.ownBlock) (hv : v'.ownBlock = some g) (hat : vR.ownBlock = some g ∨ g = (wD.drew.alloc (.cells #[.int .i64 x.tin, .int .i64 x.tout] 149)).heap.size) (hm : MapL W' (Ms + 1) Value.string (up mu x.roll v')) (hz : W.grownBy W' (some (Ms + 1))) =>
        show CkG w (pre ++ [x]) (Ms + 1) (up mu x.roll v') [(Ms, mapP mkSl ms2), (B, cellsP (tkCs x (.slice A8 x.covers.length cc8)) 122), (M, mapP Value.string mps), (X, cellsP #[.string t, .slice A n c] 44)] W' from by
          rw [← HVR.out] at hg hat
          unfold CkG
          rw [wins_snoc]
          exact HGA.out.push hown hg hv hat hm hz)
      clear hff hfS HG9 hOA
      go_cut [] (fun wx => ∃ mu2, Hid (CkG w (pre ++ [x]) (Ms + 1) mu2 [(Ms, mapP mkSl ms2), (B, cellsP (tkCs x (.slice A8 x.covers.length cc8)) 122), (M, mapP Value.string mps), (X, cellsP #[.string t, .slice A n c] 44)] wx))
      case first =>
        refine stp_start [6, 12, 13] (by kernel_rfl) (fun W => ∃ p : ι, W = ff p) ?_
        refine stp_reads (n := 5) [0, 1, 3, 4, 7, 9] [2, 5, 8, 10] (by simp only [pick, List.getElem?_cons_succ, List.getElem?_cons_zero]; rfl) (by simp only [pick, List.getElem?_cons_succ, List.getElem?_cons_zero]; rfl) (by rfl) (by kernel_rfl) (by rfl) (fun _ _ _ dd _ h => by cases dd <;> exact h) (HFS.out _ (HCE.out _ HGD.out)) (fun K1 hK1 L1 hL1 => ?_)
        repeat (first | go_big_quiet_step (fail) | quiet_step (fail))
        refine wpQuiet_nil (hL1 _ ?_)
        repeat (first | go_big_quiet_step (fail) | quiet_step (fail))
        refine wpQuiet_nil ?_
        refine hK1 _ ?_
        refine stp_reads (n := 4) [11] [] (by simp only [pick, List.getElem?_cons_succ, List.getElem?_cons_zero]; rfl) (by simp only [pick, List.getElem?_cons_succ, List.getElem?_cons_zero]; rfl) (by rfl) (by kernel_rfl) (by rfl) (fun _ _ _ dd _ h => by cases dd <;> exact h) (HFS.out _ (HCE.out _ HGD.out)) (fun K2 hK2 L2 hL2 => ?_)
        repeat (first | go_big_quiet_step (fail) | quiet_step (fail))
        refine wpQuiet_nil (hL2 _ ?_)
        repeat (first | go_big_quiet_step (fail) | quiet_step (fail))
        refine wpQuiet_nil ?_
        refine hK2 _ ?_
        refine stp_two (i := 6) (j := 12) (by kernel_rfl) rfl rfl (by kernel_rfl) (by kernel_rfl) (by rfl) (by rfl) (fun K3 hK3 => ?_) (fun K4 hK4 => ?_)
        · refine Or.inl ⟨by kernel_rfl, ?_⟩
          refine oper_lookup _ _ 139 false rfl 9 147 keyTc undWm (.slice none 0 0) (zeroWs _) (Ms + 1) mu rfl HGD.out.map x.roll rfl ?_
          simp only [Bool.false_eq_true, if_false]
          rw [HVR.out]
          refine hK3 (fun W => ∃ p : ι, W = ff p) _ _ (fun _ h => h) (fun _ => HFS.out _ (HCE.out _ HGD.out)) ?_
          refine stp_one (i := 12) (by kernel_rfl) rfl (by kernel_rfl) (by rfl) (fun K5 hK5 => ?_)
          refine Or.inl ⟨by kernel_rfl, ?_⟩
          go_simp
          refine hK5 (fun W => ∃ p : ι, W = ff p) _ _ (fun _ h => h) (fun _ => HFS.out _ (HCE.out _ HGA.out)) ?_
          refine stp_one (i := 13) (by kernel_rfl) rfl (by kernel_rfl) (by rfl) (fun K6 hK6 => ?_)
          refine Or.inl ⟨by kernel_rfl, ?_⟩
          refine oper_push (R := winR) rfl _ _ _ rfl w.heap.size w.heap.size 149 i0 _ 16 undWs hi0 hz0 (by assumption) (by assumption) rfl (by decide) _ vR (wins pre x.roll) rfl HOA.out (x.tin, x.tout) _ rfl (oneC rfl) wD.heap.size _ _ (heap_alloc_new wD.drew _) rfl HWL.out.1 HWL.out.2 (by have := HGA.out.size; exact this) ?_
          intro g7 cap7 w7 hown7 hg7 hat7 hlt7
          have hcx := HPG.out _ hg7
          refine hK6 (fun W => ∃ p : ι, W = ff p) _ _ (fun _ h => h) (fun _ => HFS.out _ (HCX.out _ hcx.1)) ?_
          refine stp_one (i := 14) (by kernel_rfl) rfl (by kernel_rfl) (by rfl) (fun K7 hK7 => ?_)
          refine Or.inl ⟨by kernel_rfl, ?_⟩
          refine oper_update _ _ _ 139 rfl 9 147 keyTc undWm (Ms + 1) mu rfl hcx.2 x.roll rfl _ rfl ?_
          intro w8 hm8 hg8
          have HGE := Lib.hid (HPU.out _ _ _ _ hown7 hg7 rfl hat7 hm8 hg8)
          refine hK7 (fun W => ∃ p : ι, W = ff p) _ _ (fun _ h => h) (fun h => absurd h (by decide)) ?_
          refine stp_end (by kernel_rfl) ?_
          go_wp2
          go_meet
          exact ⟨_, HGE.out⟩
        · refine Or.inl ⟨by kernel_rfl, ?_⟩
          go_simp
          refine hK4 (fun W => ∃ p : ι, W = ff p) _ _ (fun _ h => h) (fun _ => HFS.out _ (HCE.out _ HGA.out)) ?_
          refine stp_one (i := 6) (by kernel_rfl) rfl (by kernel_rfl) (by rfl) (fun K8 hK8 => ?_)
          refine Or.inl ⟨by kernel_rfl, ?_⟩
          refine oper_lookup _ _ 139 false rfl 9 147 keyTc undWm (.slice none 0 0) (zeroWs _) (Ms + 1) mu rfl HGA.out.map x.roll rfl ?_
          simp only [Bool.false_eq_true, if_false]
          rw [HVR.out]
          refine hK8 (fun W => ∃ p : ι, W = ff p) _ _ (fun _ h => h) (fun _ => HFS.out _ (HCE.out _ HGA.out)) ?_
          refine stp_one (i := 13) (by kernel_rfl) rfl (by kernel_rfl) (by rfl) (fun K9 hK9 => ?_)
          refine Or.inl ⟨by kernel_rfl, ?_⟩
          refine oper_push (R := winR) rfl _ _ _ rfl w.heap.size w.heap.size 149 i0 _ 16 undWs hi0 hz0 (by assumption) (by assumption) rfl (by decide) _ vR (wins pre x.roll) rfl HOA.out (x.tin, x.tout) _ rfl (oneC rfl) wD.heap.size _ _ (heap_alloc_new wD.drew _) rfl HWL.out.1 HWL.out.2 (by have := HGA.out.size; exact this) ?_
          intro g7 cap7 w7 hown7 hg7 hat7 hlt7
          have hcx := HPG.out _ hg7
          refine hK9 (fun W => ∃ p : ι, W = ff p) _ _ (fun _ h => h) (fun _ => HFS.out _ (HCX.out _ hcx.1)) ?_
          refine stp_one (i := 14) (by kernel_rfl) rfl (by kernel_rfl) (by rfl) (fun K10 hK10 => ?_)
          refine Or.inl ⟨by kernel_rfl, ?_⟩
          refine oper_update _ _ _ 139 rfl 9 147 keyTc undWm (Ms + 1) mu rfl hcx.2 x.roll rfl _ rfl ?_
          intro w8 hm8 hg8
          have HGE := Lib.hid (HPU.out _ _ _ _ hown7 hg7 rfl hat7 hm8 hg8)
          refine hK10 (fun W => ∃ p : ι, W = ff p) _ _ (fun _ h => h) (fun h => absurd h (by decide)) ?_
          refine stp_end (by kernel_rfl) ?_
          go_wp2
          go_meet
          exact ⟨_, HGE.out⟩
      case rest =>
      obtain ⟨mu2, HGF⟩ := hcut
      clear HCX HCE s0 s1 s2 HFS HGD HGA HOA HWL HPG HPU HVR
      have hjn : j < n := by
        obtain ⟨hj, _⟩ := scnIdx_some HSI.out
        rw [List.length_map] at hj
        rw [← HN.out]; exact hj
      have hjl : j < ls.length := by rw [HN.out]; exact hjn
      have HPN := Lib.hid (parN_at HSI.out (by rw [List.length_map]; exact hjl))
      have HT8 := Lib.hid (show tcE (ls.map (·.1)) rl pre x = covsE (parN (ls.map (·.1)) x.scene) x.tin x.tout none x.covers from HT7.out)
      obtain ⟨bs, of2, hAs, hfbs, _, _, _, _, s4⟩ := scAt HSW.out.sli j hjl
      obtain ⟨A4, n4, cc4, h4⟩ := sli_forms HSW.out.par _ (List.getElem_mem hjl)
      obtain ⟨N, hN⟩ : ∃ N, parN (ls.map (·.1)) x.scene = N := ⟨_, rfl⟩
      have hn4 : N = n4 := by
        rw [← hN, HPN.out, List.getElem_map]
        obtain ⟨_, _, he, _, _⟩ := (HSW.out.par _ (List.getElem_mem hjl)).form
        rw [h4] at he
        injection he with _ he _
        exact he.symm
      rw [hN] at HT8
      subst hAs
      rw [h4] at s4
      subst hn4
      have hbs := HSW.out.lt bs hfbs
      have HC := Lib.hid (fun (W : World) (h : CkG w (pre ++ [x]) (Ms + 1) mu2 [(Ms, mapP mkSl ms2), (B, cellsP (tkCs x (.slice A8 x.covers.length cc8)) 122), (M, mapP Value.string mps), (X, cellsP #[.string t, .slice (some ⟨bs, of2, none⟩) n c] 44)] W) => show W.cell? ⟨B, 0, none⟩ = some (.string x.scene) ∧ W.cell? ⟨B, 1, none⟩ = some (.string x.setup) ∧ W.cell? ⟨B, 2, none⟩ = some (.int .i64 x.number) ∧ W.cell? ⟨B, 3, none⟩ = some (.string x.roll) ∧ W.cell? ⟨B, 4, none⟩ = some (.string x.sound) ∧ W.cell? ⟨B, 5, none⟩ = some (.int .i64 x.tin) ∧ W.cell? ⟨B, 6, none⟩ = some (.int .i64 x.tout) ∧ W.cell? ⟨B, 7, none⟩ = some (.bool x.good) ∧ W.cell? ⟨B, 8, none⟩ = some (.slice A8 x.covers.length cc8) ∧ W.cell? ⟨X, 1, none⟩ = some (.slice (some ⟨bs, of2, none⟩) n c) ∧ W.cell? ⟨bs, of2 + j * 5 + 4, none⟩ = some (.slice A4 N cc4) from by
        obtain ⟨g0, g1, g2, g3, g4, g5, g6, g7, g8⟩ := tkCs_cells (h.prv (B, cellsP (tkCs x (.slice A8 x.covers.length cc8)) 122) (by simp)).1
        exact ⟨g0, g1, g2, g3, g4, g5, g6, g7, g8, (str_cells (h.prv (X, cellsP #[.string t, .slice (some ⟨bs, of2, none⟩) n c] 44) (by simp)).1).1 1, (h.bel.cell (p := ⟨bs, of2 + j * 5 + 4, none⟩) hbs).trans s4⟩)
      have hj0 : (0 : Int) ≤ j := by omega
      have hj1 : (j : Int) < n := by omega
      have HCF := Lib.hid (fun (W : World) (hW : Below w.heap.size w W) => show Calls Tryz.prog 98 #[.agg #[.string x.scene, .string x.setup, .int .i64 x.number, .string x.roll, .string x.sound, .int .i64 x.tin, .int .i64 x.tout, .bool x.good, .slice A8 x.covers.length cc8], .int .i64 (N : Int)] W (fun e w' => e = .returned (.int .i64 (covsE N x.tin x.tout none x.covers)) ∧ Below W.heap.size W w') from
        coversFault_c x (.slice A8 x.covers.length cc8) N W (HCV.out.below hW HT.out.lt) (fun b hb => Nat.lt_of_lt_of_le (HT.out.lt b hb) hW.size) q5)
      clear HT7 HPN hN h4 HCV s4
      go_upto_region 35 with (fail)
      obtain ⟨ι, ff, hne, hff, hfS⟩ := family (fun W => W.cell? ⟨B, 0, none⟩ = some (.string x.scene) ∧ W.cell? ⟨B, 1, none⟩ = some (.string x.setup) ∧ W.cell? ⟨B, 2, none⟩ = some (.int .i64 x.number) ∧ W.cell? ⟨B, 3, none⟩ = some (.string x.roll) ∧ W.cell? ⟨B, 4, none⟩ = some (.string x.sound) ∧ W.cell? ⟨B, 5, none⟩ = some (.int .i64 x.tin) ∧ W.cell? ⟨B, 6, none⟩ = some (.int .i64 x.tout) ∧ W.cell? ⟨B, 7, none⟩ = some (.bool x.good) ∧ W.cell? ⟨B, 8, none⟩ = some (.slice A8 x.covers.length cc8) ∧ W.cell? ⟨X, 1, none⟩ = some (.slice (some ⟨bs, of2, none⟩) n c) ∧ W.cell? ⟨bs, of2 + j * 5 + 4, none⟩ = some (.slice A4 N cc4)) wc (HC.out _ HGF.out)
      have s0 := fun p => (hff p).1
      have s1 := fun p => (hff p).2.1
      have s2 := fun p => (hff p).2.2.1
      have s3 := fun p => (hff p).2.2.2.1
      have s4 := fun p => (hff p).2.2.2.2.1
      have s5 := fun p => (hff p).2.2.2.2.2.1
      have s6 := fun p => (hff p).2.2.2.2.2.2.1
      have s7 := fun p => (hff p).2.2.2.2.2.2.2.1
      have s8 := fun p => (hff p).2.2.2.2.2.2.2.2.1
      have s9 := fun p => (hff p).2.2.2.2.2.2.2.2.2.1
      have s10 := fun p => (hff p).2.2.2.2.2.2.2.2.2.2
      have HFS := Lib.hid hfS
      have HGD := Lib.hid HGF.out.drew
      clear hff hfS
      go_cut [20] (fun s20 wx => s20 = .int .i64 (covsE N x.tin x.tout none x.covers) ∧ Hid (CkG w (pre ++ [x]) (Ms + 1) mu2 [(Ms, mapP mkSl ms2), (B, cellsP (tkCs x (.slice A8 x.covers.length cc8)) 122), (M, mapP Value.string mps), (X, cellsP #[.string t, .slice (some ⟨bs, of2, none⟩) n c] 44)] wx))
      case first =>
        refine wp_region_segs2 [7, 8] [9] [] [([1, 3], [0, 2, 4, 5, 6], 7), ([], [], 8)] (by kernel_rfl) (by kernel_rfl) (fun _ _ _ dd _ h => by cases dd <;> exact h) (fun W => ∃ p : ι, W = ff p) (HFS.out _ (HC.out _ HGD.out)) ?_
        refine wpSegs2_step (by simp only [pick, List.getElem?_cons_succ, List.getElem?_cons_zero]; rfl) (by simp only [pick, List.getElem?_cons_succ, List.getElem?_cons_zero]; rfl) rfl (fun K41 hK41 L41 hL41 => ?_)
        repeat (first | go_big_quiet_step (fail) | quiet_step (fail))
        refine wpQuiet_nil (hL41 _ ?_)
        repeat (first | go_big_quiet_step (fail) | quiet_step (fail))
        refine wpQuiet_nil ?_
        go_simp
        refine hK41 (fun W => ∃ p : ι, W = ff p) _ _ (fun _ h => h) (HFS.out _ (HC.out _ HGD.out)) ?_
        refine wpSegs2_step (by simp only [pick, List.getElem?_cons_succ, List.getElem?_cons_zero]; rfl) (by simp only [pick, List.getElem?_cons_succ, List.getElem?_cons_zero]; rfl) rfl (fun K42 hK42 L42 hL42 => ?_)
        repeat (first | go_big_quiet_step (fail) | quiet_step (fail))
        refine wpQuiet_nil (hL42 _ ?_)
        repeat (first | go_big_quiet_step (fail) | quiet_step (fail))
        refine wpQuiet_nil ?_
        go_simp
        refine (HCF.out _ HGD.out.bel).mono ?_
        rintro e w9 ⟨rfl, hb9⟩
        have HG9 := Lib.hid (HGD.out.below hb9)
        refine hK42 (fun W => ∃ p : ι, W = ff p) _ _ (fun _ h => h) (HFS.out _ (HC.out _ HG9.out)) ?_
        refine wpSegs2_fin (by simp only [pick, List.getElem?_cons_succ, List.getElem?_cons_zero]; rfl) (by simp only [pick, List.getElem?_cons_succ, List.getElem?_cons_zero]; rfl) (fun L43 hL43 => ?_)
        repeat (first | go_big_quiet_step (fail) | quiet_step (fail))
        refine wpQuiet_nil (hL43 _ ?_)
        repeat (first | go_big_quiet_step (fail) | quiet_step (fail))
        refine wpQuiet_nil ?_
        go_wp2
        go_meet
        exact ⟨rfl, HG9.out⟩
      case rest =>
      obtain ⟨rfl, HGF2⟩ := hcut
      clear s0 s1 s2 s3 s4 s5 s6 s7 s8 s9 s10 HFS HGD HC HCF HGF
      have HG10 := Lib.hid (HGF2.out.less (Q := [(Ms, mapP mkSl ms2), (M, mapP Value.string mps), (X, cellsP #[.string t, .slice (some ⟨bs, of2, none⟩) n c] 44)]) (by intro p hp; simp only [List.mem_cons, List.not_mem_nil, or_false] at hp ⊢; rcases hp with rfl | rfl | rfl <;> simp))
      by_cases hce : covsE N x.tin x.tout none x.covers = 0
      · have HR := Lib.hid (rnd0 HST.out (HT8.out.trans hce))
        rw [hce]
        clear hce
        go_wp2
        go_roundw
        case rel => exact ⟨k + 1, ms2, mu2, by omega, intNum, HR.out, by rw [HTK.out]; exact HSN.out, by rw [HTK.out]; exact HG10.out⟩
        case measure => simp [intOf]; omega
      · have HR := Lib.hid (rnd HST.out HT8.out hce)
        have hne : (covsE N x.tin x.tout none x.covers != 0) = true := by rw [bne_iff_ne]; exact hce
        clear hce
        generalize covsE N x.tin x.tout none x.covers = ce at *
        go_wp2
        go_ret
        exact CkTP.mk HR.out HG10.out.bel
    · have HR := Lib.hid (HE.out.trans (tcsE_end _ _ _ k (by rw [List.length_map, HL.out]; exact hlt)))
      have hB := G.out.bel
      go_wp2
      go_ret
      exact CkTP.mk HR.out hB
end Go.Proofs.YtmefjkfjpgblcaaGreatDoor

