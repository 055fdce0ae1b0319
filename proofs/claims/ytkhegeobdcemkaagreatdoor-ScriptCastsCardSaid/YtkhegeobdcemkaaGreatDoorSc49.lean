/- Texts packed: CsW. -/
import Derived.Test.YtkhegeobdcemkaaGreatDoorSc44
import Derived.Test.YtkhegeobdcemkaaGreatDoorSc20
import Derived.Test.YtkhegeobdcemkaaGreatDoorSc01
import Derived.Test.YtkhegeobdcemkaaGreatDoorSc48
import Derived.Deep.DeepCutAuto
/- script.Cast, walked. -/
namespace Go.Proofs.YtkhegeobdcemkaaGreatDoor
set_option linter.unusedVariables false
open Go.RowKit Go.Sort

def CaP (x : Script) (w : World) (e : Ending) (w' : World) : Prop := ∃ v q, e = .returned (.tuple #[v, .int .i64 q]) ∧ Below w.heap.size w w' ∧ chkE x = q ∧ ((¬ q = 0 ∧ v = .slice none 0 0) ∨ (q = 0 ∧ Own rxR w' w.heap.size w.heap.size 41 (castS x.scenes) v))
abbrev RxG (w : World) (l : List Rx) (v : Value) (P : List Pb) (wx : World) : Prop := BM rxR 41 w l v P wx
set_option maxRecDepth 100000 in
set_option maxHeartbeats 4000000 in
theorem Cast_c {F : Nat → Prop} (t : ByteArray) (ls : List (Scene × Value)) (v : Value) (w : World) (h : ScL w F t ls v) (hB : FdB (ls.map (·.1))) (hm : MaxLaid w) :
    Calls Tryz.prog 9 #[.agg #[.string t, v]] w (CaP ⟨t, ls.map (·.1)⟩ w) := by
  obtain ⟨i0, hi0, hz0, hz1, hz2⟩ := info_parts (show (Tryz.prog.info? 41).map (fun i => (i.zero, i.size, i.bytes)) = some (some (.agg #[.string ⟨#[]⟩, .int .i64 0, .int .i64 0, .int .i64 0]), 4, 40) by kernel_rfl)
  obtain ⟨A, c, rfl, hlc, hcm⟩ := h.sli.form
  have HB := Lib.hid ((Below.refl w.heap.size w).alloc (Nat.le_refl _) (.cells #[.string t, .slice A ls.length c] 28))
  have h1 := h.below HB.out
  have HCK := Lib.hid (Check_c t ls (.slice A ls.length c) (w.alloc (.cells #[.string t, .slice A ls.length c] 28)) h1 (max_alloc hm _))
  have HH1 := Lib.hid h1
  have HY := Lib.hid (fun (W : World) (hb : Below (w.alloc (.cells #[.string t, .slice A ls.length c] 28)).heap.size (w.alloc (.cells #[.string t, .slice A ls.length c] 28)) W) => show W.cell? ⟨w.heap.size, 0, none⟩ = some (.string t) ∧ W.cell? ⟨w.heap.size, 1, none⟩ = some (.slice A ls.length c) by
    obtain ⟨y, _⟩ := str_cells ((hb.block w.heap.size (by simp)).trans (heap_alloc_new w _))
    exact ⟨y 0, y 1⟩)
  obtain ⟨L, hL⟩ : ∃ L, ls.length = L := ⟨_, rfl⟩
  have HL := Lib.hid hL
  have HBB := Lib.hid hB.2
  have hL1 : L ≤ 1000 := by have := hB.1; rw [List.length_map] at this; omega
  rw [hL] at HB HCK HH1 HY hlc ⊢
  clear h h1 hm hB hL
  go_enter Tryz.func9, Tryz.ntmps9
  go_wp2_with fail
  refine HCK.out.mono ?_
  rintro e w2 ⟨rfl, hb2⟩
  obtain ⟨y0, y1⟩ := HY.out w2 hb2
  have hz2 : w.heap.size < w2.heap.size := by have := hb2.size; simp at this; omega
  have HH2 := Lib.hid (HH1.out.below hb2).sc2
  have HB2 := Lib.hid (HB.out.trans (hb2.mono HB.out.size))
  clear hb2 HCK HY HB HH1
  obtain ⟨ck, hck⟩ : ∃ ck, chkE ⟨t, ls.map (·.1)⟩ = ck := ⟨_, rfl⟩
  have HC := Lib.hid hck
  rw [hck]
  clear hck
  by_cases hc : ck = 0
  case neg =>
    have HNE := Lib.hid hc
    have hne : (ck != 0) = true := bne_iff_ne.2 hc
    clear hc
    go_wp2
    go_ret2
    exact ⟨_, ck, rfl, HB2.out, HC.out, .inl ⟨HNE.out, rfl⟩⟩
  subst hc
  have HRT := Lib.hid (show ∀ x ∈ ls.map (·.1), RtP x.paras from fun x hx => parasE_rt ((chkE_ok HC.out).sc x hx).2.2.2.2)
  have GM := ((BM.start (n := 4) (enc := Rx.cells) (hn := fun _ => rfl) (e := 41) w2).newMap Value.string).newMap Value.string
  have hmm := @run_makeMap Tryz.prog
  go_upto_region 7 with (fail)
  clear hmm
  generalize hW : (w2.alloc (.map #[] 0)).alloc (.map #[] 0) = w3 at *
  have y1' : w3.cell? ⟨w.heap.size, 1, none⟩ = some (.slice A L c) := by
    rw [← hW]
    exact ((World.cell?_alloc_lt _ _ ⟨w.heap.size, 1, none⟩ (by simp; omega)).trans (World.cell?_alloc_lt w2 _ ⟨w.heap.size, 1, none⟩ hz2)).trans y1
  have hMd : w2.heap.size + 1 ≠ w2.heap.size := by simp
  clear y0 y1 hW
  rw [show (w2.alloc (.map #[] 0)).heap.size = w2.heap.size + 1 by simp] at GM
  generalize hM2 : w2.heap.size + 1 = M2 at GM hMd ⊢
  generalize hM1 : w2.heap.size = M1 at GM hMd ⊢
  clear hM1 hM2
  have G1 := Lib.hid (show RxG w2 (castN (ls.map (·.1)) 0) (.slice none 0 0) [(M1, mapP Value.string (idxM (nmX (castN (ls.map (·.1)) 0)))), (M2, mapP Value.string ([] : List (ByteArray × Value)))] w3 from GM.less (by
    intro p hp
    simp only [List.mem_cons, List.not_mem_nil, or_false] at hp ⊢
    exact hp.symm))
  have HL0 := Lib.hid (show LmOk [] 0 (castN (ls.map (·.1)) 0) from LmOk.nil 0)
  clear GM
  go_wp2
  go_loopw [5, 25] (fun v i wr => ∃ (k : Nat) (lm : List (ByteArray × Value)), k ≤ L ∧ i = .int .i64 k ∧ Hid (LmOk lm 0 (castN (ls.map (·.1)) k)) ∧ Hid (RxG w2 (castN (ls.map (·.1)) k) v [(M1, mapP Value.string (idxM (nmX (castN (ls.map (·.1)) k)))), (M2, mapP Value.string lm)] wr)) (fun _ i _ => L - (intOf i).toNat)
  case atStart => exact ⟨0, [], Nat.zero_le _, rfl, HL0, G1⟩
  case round =>
    clear G1 y1' HL0
    obtain ⟨k, lm, hk, rfl, HLM, HG⟩ := hrel
    by_cases hlt : k < L
    · have hk2 : k < ls.length := by rw [HL.out]; exact hlt
      obtain ⟨b, off, rfl, hfb, c0, c1, c2, c3, c4⟩ := scAt (HH2.out.below HG.out.bel).sli k hk2
      have hmem := List.getElem_mem hk2
      have hpa := HH2.out.par _ hmem
      obtain ⟨A4, cc4, h4, _, _⟩ := hpa.form
      have hkm : k < (ls.map (·.1)).length := by rw [List.length_map]; exact hk2
      have hgm : (ls.map (·.1))[k]'hkm = (ls[k]'hk2).1 := List.getElem_map ..
      have hnx := castN_next (xs := ls.map (·.1)) hkm
      have hbd := HBB.out _ (List.getElem_mem hkm)
      have hrt := HRT.out _ (List.getElem_mem hkm)
      rw [hgm] at hnx hbd hrt
      rw [h4] at c4 hpa
      have hbw : b < wr.heap.size := Nat.lt_of_lt_of_le (HH2.out.lt b hfb) HG.out.size
      have hok := castN_ok (xs := ls.map (·.1)) HBB.out k
      clear h4 hmem hkm hgm
      generalize (ls[k]'hk2).1 = x at *
      have HNX := Lib.hid hnx
      have HPA := Lib.hid hpa
      have HBD := Lib.hid hbd.2
      have hpl := hbd.1
      have HRP := Lib.hid hrt
      have HOK := Lib.hid (parN_ok (i := k) hok hbd.2)
      have HPK := Lib.hid (parN_at (i := k) hok hbd.2 hrt)
      obtain ⟨M, hM⟩ : ∃ M, x.paras.length = M := ⟨_, rfl⟩
      have HM := Lib.hid hM
      rw [hM] at c4 HPA hpl HNX
      generalize castN (ls.map (·.1)) k = out at *
      have G2 := HG.out.new #[.string x.no, .int .i64 x.place, .string x.set, .int .i64 x.time, .slice A4 M cc4] 71
      have HX1 := Lib.hid (show M1 < wr.heap.size ∧ M2 < wr.heap.size from ⟨(HG.out.plt (b := M1) (f := mapP Value.string (idxM (nmX out))) (by simp)).2, (HG.out.plt (b := M2) (f := mapP Value.string lm) (by simp)).2⟩)
      clear hpa hbd hM hnx hk2 hrt hok HG
      go_upto_region 11 with (fail)
      generalize hW : wr.alloc (.cells #[.string x.no, .int .i64 x.place, .string x.set, .int .i64 x.time, .slice A4 M cc4] 71) = w5 at *
      obtain ⟨gx, _⟩ := G2.cell (b := wr.heap.size) (cs := #[.string x.no, .int .i64 x.place, .string x.set, .int .i64 x.time, .slice A4 M cc4]) (T := 71) (by simp)
      have s4 : w5.cell? ⟨wr.heap.size, 4, none⟩ = some (.slice A4 M cc4) := gx 4
      have G3 := Lib.hid (show RxG w2 (parN k out x.paras 0).out u5 [(M1, mapP Value.string (idxM (nmX (parN k out x.paras 0).out))), (M2, mapP Value.string lm)] w5 from G2.less (fun p hp => List.mem_cons_of_mem _ hp))
      clear gx c0 c1 c2 c3 c4 hW G2 HX1
      go_wp2
      go_loopw [5, 10, 33] (fun v kv i wr => ∃ (j : Nat) (lm : List (ByteArray × Value)), j ≤ M ∧ i = .int .i64 j ∧ kv = .int .i64 ((parN k out x.paras j).k : Int) ∧ Hid (LmOk lm 0 (parN k out x.paras j).out) ∧ Hid (RxG w2 (parN k out x.paras j).out v [(M1, mapP Value.string (idxM (nmX (parN k out x.paras j).out))), (M2, mapP Value.string lm)] wr)) (fun _ _ i _ => M - (intOf i).toNat)
      case atStart => exact ⟨0, lm, Nat.zero_le _, rfl, rfl, HLM, G3⟩
      case round =>
        clear G3 s4 HLM
        obtain ⟨j, lm, hj, rfl, rfl, HLM, HG⟩ := hrel
        by_cases hlj : j < M
        · have hj2 : j < x.paras.length := by rw [HM.out]; exact hlj
          obtain ⟨b', off', rfl, hfb', p0, p1⟩ := para_at (HPA.out.below HG.out.bel HH2.out.lt) j hj2
          have htx := HBD.out _ (List.getElem_mem hj2)
          have hnx := parN_next (i := k) (out := out) hj2
          have hok := HOK.out j
          have hpk := HPK.out j hj2
          have hbw' : b' < wr.heap.size := by have := HH2.out.lt b' hfb'; have := HG.out.size; omega
          have hXA := (HG.out.plt (b := M1) (f := mapP Value.string (idxM (nmX (parN k out x.paras j).out))) (by simp)).2
          have hXB := (HG.out.plt (b := M2) (f := mapP Value.string lm) (by simp)).2
          generalize x.paras[j]'hj2 = p at *
          generalize parN k out x.paras j = st at *
          have HNX2 := Lib.hid hnx
          have HOK2 := Lib.hid hok
          have G4 := Lib.hid (HG.out.new #[.int .i64 p.kind, .string p.text] 78)
          clear hj2 hnx HG hok
          go_upto_region 14 with (fail)
          generalize hW : wr.alloc (.cells #[.int .i64 p.kind, .string p.text] 78) = w9 at *
          have hY9 := (G4.out.plt (b := wr.heap.size) (List.mem_cons_self ..)).2
          have hYA : wr.heap.size ≠ M1 ∧ wr.heap.size ≠ M2 := ⟨by omega, by omega⟩
          generalize wr.heap.size = Y at *
          have HCL := Lib.hid (fun (W : World) l v P (hW : RxG w2 l v P W) (hm : (Y, cellsP #[.int .i64 p.kind, .string p.text] 78) ∈ P) => show W.cell? ⟨Y, 0, none⟩ = some (.int .i64 p.kind) ∧ W.cell? ⟨Y, 1, none⟩ = some (.string p.text) from ⟨(hW.cell hm).1 0, (hW.cell hm).1 1⟩)
          obtain ⟨d0, d1⟩ := HCL.out _ _ _ _ G4.out (List.mem_cons_self ..)
          clear hW p0 p1
          by_cases h2 : p.kind = 2
          · have e2 : (p.kind == 2) = true := beq_iff_eq.2 h2
            have HN := Lib.hid (HNX2.out.trans (by unfold parS; rw [if_pos h2] : _ = cueS k p.text st))
            clear h2 hpk
            cases hps : posX st.out p.text with
            | none =>
              have HN2 := Lib.hid (HN.out.trans (by unfold cueS; rw [hps] : _ = (⟨st.out ++ [⟨p.text, k, 1, 1, 0⟩], st.out.length⟩ : Cst)))
              have hno := posX_none hps
              have HLK := Lib.hid (show lk (idxM (nmX st.out)) p.text = none from idxM_no hno)
              have HMU := Lib.hid (show up (idxM (nmX st.out)) p.text (.int .i64 (st.out.length : Int)) = idxM (nmX (st.out ++ [⟨p.text, k, 1, 1, 0⟩])) by
                rw [show nmX (st.out ++ [⟨p.text, k, 1, 1, 0⟩]) = nmX st.out ++ [p.text] by simp [nmX], show (st.out.length : Int) = ((nmX st.out).length : Int) by simp [nmX]]
                exact idxM_up hno)
              have HLA := Lib.hid (HLM.out.add (r := ⟨p.text, k, 1, 1, 0⟩) hno rfl (m' := up (up lm p.text (.int .i64 (-1))) p.text (.int .i64 k)) (fun s => by
                rw [lk_up, lk_up]
                by_cases e : s = p.text
                · rw [if_pos e, if_pos e, Int.add_zero]
                · rw [if_neg e, if_neg e, if_neg e]))
              have HM9 := Lib.hid (G4.out.map (b := M1) (mk := Value.string) (m := idxM (nmX st.out)) (by simp))
              have hlb := HOK2.out.len
              obtain ⟨m, hm⟩ : ∃ m, st.out.length = m := ⟨_, rfl⟩
              have HL1 := Lib.hid hm
              rw [hm] at HMU HN2 hlb
              obtain ⟨A5, c5, rfl, _, _⟩ := (G4.out.own.sliF (F := fun _ => True) (enc := Rx.cells) (hn := fun _ => rfl) (fun _ _ => trivial)).form
              rw [hm] at G4 ⊢
              clear hps hno HN hm
              go_upto_region 19 with (first
                | (at_lookup; refine wpList_lookup_plain _ rfl _ _ 76 true rfl 9 3 keyS2 Tryz.underlying76 (.int .i64 0) (zeroI _) M1 (idxM (nmX st.out)) rfl HM9.out p.text rfl ?_; rw [HLK.out]; simp only [if_true, Option.getD_none, Option.isSome_none])
                | fail)
              generalize Value.slice A5 m c5 = va at *
              obtain ⟨ι, ff, hne, hff, hfS⟩ := family (fun W => W.cell? ⟨Y, 1, none⟩ = some (.string p.text)) w9 d1
              have q0 := fun p => hff p
              have HFS := Lib.hid hfS
              have HD := Lib.hid d1
              clear hff hfS
              refine wp_region_segs3 [7] [] [] [([0, 1, 3, 4, 6], [2, 5], 7), ([], [], 8)] (by kernel_rfl) (by kernel_rfl) (fun _ _ _ dd _ h => by cases dd <;> exact h) (fun W => ∃ p : ι, W = ff p) (HFS.out _ HD.out) ?_
              refine wpSegs3_step (by simp only [pick, List.getElem?_cons_succ, List.getElem?_cons_zero]; rfl) (by simp only [pick, List.getElem?_cons_succ, List.getElem?_cons_zero]; rfl) rfl (fun K0 hK0 L0 hL0 => ?_)
              repeat (first | go_big_quiet_step (fail) | quiet_step (fail))
              refine wpQuiet_nil (hL0 _ ?_)
              repeat (first | go_big_quiet_step (fail) | quiet_step (fail))
              refine wpQuiet_nil ?_
              refine Or.inl ⟨by kernel_rfl, ?_⟩
              refine oper_update _ _ _ 76 rfl 9 3 keyS2 Tryz.underlying76 M1 (idxM (nmX st.out)) rfl (show MapL w9.drew M1 Value.string (idxM (nmX st.out)) from HM9.out) p.text rfl (.int .i64 (m : Int)) rfl ?_
              intro w10 hm10 hg10
              rw [HMU.out] at hm10
              have G5 := Lib.hid ((G4.out.drew.less (Q := [(M1, mapP Value.string (idxM (nmX st.out))), (Y, cellsP #[.int .i64 p.kind, .string p.text] 78), (M2, mapP Value.string lm)]) (by simp)).put (by simp only [List.mem_cons, List.not_mem_nil, or_false, forall_eq_or_imp, forall_eq]; exact ⟨hYA.1, hMd⟩) hm10 hg10)
              have HM10 := Lib.hid (G5.out.map (b := M2) (mk := Value.string) (m := lm) (by simp))
              have d10 := (HCL.out _ _ _ _ G5.out (by simp)).2
              clear hm10 hg10 G4 HM9
              refine hK0 (fun W => ∃ p : ι, W = ff p) _ _ (fun _ h => h) (HFS.out _ d10) ?_
              refine wpSegs3_step (by simp only [pick, List.getElem?_cons_succ, List.getElem?_cons_zero]; rfl) (by simp only [pick, List.getElem?_cons_succ, List.getElem?_cons_zero]; rfl) rfl (fun K1 hK1 L1 hL1 => ?_)
              repeat (first | go_big_quiet_step (fail) | quiet_step (fail))
              refine wpQuiet_nil (hL1 _ ?_)
              repeat (first | go_big_quiet_step (fail) | quiet_step (fail))
              refine wpQuiet_nil ?_
              refine Or.inl ⟨by kernel_rfl, ?_⟩
              refine oper_update _ _ _ 76 rfl 9 3 keyS2 Tryz.underlying76 M2 lm rfl HM10.out p.text rfl (.int .i64 (-1)) rfl ?_
              intro w11 hm11 hg11
              have G6 := Lib.hid ((G5.out.less (Q := [(M2, mapP Value.string lm), (M1, mapP Value.string (idxM (nmX (st.out ++ [⟨p.text, k, 1, 1, 0⟩])))), (Y, cellsP #[.int .i64 p.kind, .string p.text] 78)]) (by simp)).put (by simp only [List.mem_cons, List.not_mem_nil, or_false, forall_eq_or_imp, forall_eq]; exact ⟨fun e => hMd e.symm, hYA.2⟩) hm11 hg11)
              have d11 := (HCL.out _ _ _ _ G6.out (by simp)).2
              clear hm11 hg11 G5 HM10
              refine hK1 (fun W => ∃ p : ι, W = ff p) _ _ (fun _ h => h) (HFS.out _ d11) (wpSegs3_end ?_)
              clear q0 HFS HD d1 d10 hne
              go_upto_region 21 with (at_builtin; (refine wpList_pushB (R := rxR) rfl _ _ _ rfl w2.heap.size w2.heap.size 41 i0 _ 40 Tryz.underlying30 hi0 hz0 (by assumption) (by assumption) rfl (by decide) _ va st.out rfl (G6.out.own.alloc _) ⟨p.text, k, 0, 0, 0⟩ [.string p.text, .int .i64 0, .int .i64 0, .int .i64 0] rfl (oneC rfl) w11.heap.size _ _ (heap_alloc_new w11 _) rfl (by rw [HL1.out]; simp [maxLen]; omega) (by rw [HL1.out]; omega) (by have := G6.out.bel.size; simp; omega) ?_); rw [HL1.out]; intro g cap w7 hown7 hg7 hat7 hlt7)
              have G7 := Lib.hid ((G6.out.alloc (.cells #[.string p.text, .int .i64 0, .int .i64 0, .int .i64 0] 41)).more hown7 hg7 rfl hat7)
              have hll : m < (st.out ++ [(⟨p.text, k, 0, 0, 0⟩ : Rx)]).length := by rw [List.length_append, HL1.out]; simp
              have hge : (st.out ++ [(⟨p.text, k, 0, 0, 0⟩ : Rx)])[m]'hll = ⟨p.text, k, 0, 0, 0⟩ := by have := getLast st.out (⟨p.text, k, 0, 0, 0⟩ : Rx) (by simp); simp only [HL1.out] at this; exact this
              have hca := Own.cellAt (enc := Rx.cells) (hn := fun _ => rfl) G7.out.own m hll 1 (by decide)
              have hcb := Own.cellAt (enc := Rx.cells) (hn := fun _ => rfl) G7.out.own m hll 2 (by decide)
              rw [hge] at hca hcb
              have a1 : w7.cell? ⟨g, m * 4 + 1, none⟩ = some (.int .i64 0) := hca.1
              have f1 := hca.2
              have a2 : w7.cell? ⟨g, m * 4 + 2, none⟩ = some (.int .i64 0) := hcb.1
              have f2 := hcb.2
              have HM7 := Lib.hid (G7.out.map (b := M2) (mk := Value.string) (m := up lm p.text (.int .i64 (-1))) (by simp))
              have HLK2 := Lib.hid (show lk (up lm p.text (.int .i64 (-1))) p.text = some (.int .i64 (-1)) by rw [lk_up, if_pos rfl])
              have hmk : ((-1 : Int) != (k : Int)) = true := bne_iff_ne.2 (by omega)
              have hml : (m : Int) < (m : Int) + 1 := by omega
              have d7 := (HCL.out _ _ _ _ G7.out (by simp)).2
              have G8 := Lib.hid (BM.modify (enc := Rx.cells) (hn := fun _ => rfl) G7.out (fun r => { r with sc := 1 }) m 1 (.int .i64 1) (fun _ => rfl) (by decide) hll)
              clear hca hcb hge hown7 hg7 hat7 G6
              go_upto_region 23 with (first
                | (at_lookup; refine wpList_lookup_plain _ rfl _ _ 76 false rfl 9 3 keyS2 Tryz.underlying76 (.int .i64 0) (zeroI _) M2 (up lm p.text (.int .i64 (-1))) rfl HM7.out p.text rfl ?_; rw [HLK2.out]; simp only [Bool.false_eq_true, if_false, Option.getD_some])
                | fail)
              have b2 : (w7.setCell ⟨g, m * 4 + 1, none⟩ (.int .i64 1)).cell? ⟨g, m * 4 + 2, none⟩ = some (.int .i64 0) := by
                have hll2 : m < ((st.out ++ [(⟨p.text, k, 0, 0, 0⟩ : Rx)]).modify m fun r => { r with sc := 1 }).length := by rw [List.length_modify]; exact hll
                have h := (Own.cellAt (enc := Rx.cells) (hn := fun _ => rfl) G8.out.own m hll2 2 (by decide)).1
                rw [List.getElem_modify, if_pos rfl] at h
                have hge : (st.out ++ [(⟨p.text, k, 0, 0, 0⟩ : Rx)])[m]'hll = ⟨p.text, k, 0, 0, 0⟩ := by have := getLast st.out (⟨p.text, k, 0, 0, 0⟩ : Rx) (by simp); simp only [HL1.out] at this; exact this
                rw [hge] at h
                exact h
              have g2 : (w7.setCell ⟨g, m * 4 + 1, none⟩ (.int .i64 1)).frozen? ⟨g, m * 4 + 2, none⟩ = false := by rw [frozen_setCell]; exact f2
              have HM8 := Lib.hid (G8.out.map (b := M2) (mk := Value.string) (m := up lm p.text (.int .i64 (-1))) (by simp))
              have d8 := (HCL.out _ _ _ _ G8.out (by simp)).2
              have hg8 : g < (w7.setCell ⟨g, m * 4 + 1, none⟩ (.int .i64 1)).heap.size := by simpa [World.setCell] using hlt7
              have hgM : g ≠ M2 := fun e => (G8.out.prv (M2, mapP Value.string (up lm p.text (.int .i64 (-1)))) (by simp)).2.2.2 (by rw [← e]; rfl)
              clear a1 f1 a2 f2 d7 HM7 HLK2 hmk G7
              generalize w7.setCell ⟨g, m * 4 + 1, none⟩ (.int .i64 1) = w8 at *
              go_upto_region 24 with (first
                | (at_mapUpdate; refine wpList_update_plain _ rfl _ _ _ 76 rfl 9 3 keyS2 Tryz.underlying76 M2 (up lm p.text (.int .i64 (-1))) rfl HM8.out p.text rfl (.int .i64 (k : Int)) rfl ?_; intro w12 hm12 hg12; have G9 := Lib.hid (G8.out.put (by simp only [List.mem_cons, List.not_mem_nil, or_false, forall_eq_or_imp, forall_eq]; exact ⟨fun e => hMd e.symm, hYA.2⟩) hm12 hg12); have a12 := (World.cell?_of_block (a := ⟨g, m * 4 + 2, none⟩) (hg12.block g hg8 (fun e => hgM (by injection e)))).trans b2; have f12 := (World.frozen?_of_block (a := ⟨g, m * 4 + 2, none⟩) (hg12.block g hg8 (fun e => hgM (by injection e)))).trans g2; clear hm12 hg12)
                | fail)
              have hll2 : m < ((st.out ++ [(⟨p.text, k, 0, 0, 0⟩ : Rx)]).modify m fun r => { r with sc := 1 }).length := by rw [List.length_modify]; exact hll
              have G10 := Lib.hid (BM.modify (enc := Rx.cells) (hn := fun _ => rfl) G9.out (fun r => { r with sp := 1 }) m 2 (.int .i64 1) (fun _ => rfl) (by decide) hll2)
              have HLE := Lib.hid (show ((st.out ++ [(⟨p.text, k, 0, 0, 0⟩ : Rx)]).modify m fun r => { r with sc := 1 }).modify m (fun r => { r with sp := 1 }) = st.out ++ [⟨p.text, k, 1, 1, 0⟩] by
                rw [modMod, ← HL1.out]
                exact modLast _ _ _)
              rw [HLE.out] at G10
              clear b2 g2 d8 HM8 hg8 hgM G8 G9 hll hll2 HLE HLK HMU
              go_wp2
              go_roundw
              case rel => exact ⟨j + 1, _, by omega, intNum, by rw [HN2.out], by rw [HN2.out]; exact HLA, by rw [HN2.out]; exact Lib.hid (G10.out.less (by simp))⟩
              case measure => simp [intOf]; omega
            | some n =>
              have HN2 := Lib.hid (HN.out.trans (by unfold cueS; rw [hps] : _ = (⟨st.out.modify n (cueU k), n⟩ : Cst)))
              obtain ⟨hnl, hnm⟩ := posX_some hps
              obtain ⟨hnl2, hnm2⟩ := nmX_get hnl
              have HLK := Lib.hid (show lk (idxM (nmX st.out)) p.text = some (.int .i64 (n : Int)) by rw [← hnm, ← hnm2]; exact idxM_yes HOK2.out.nd hnl2)
              have HLK2 := Lib.hid (show lk lm p.text = some (.int .i64 (st.out[n].last)) by rw [← hnm, HLM.out.yes n hnl, Int.add_zero])
              have hla := HLM.out.put (d := 0) (i := k) HOK2.out.nd n hnl (cueU k) (fun _ => rfl) rfl
              rw [hnm, Int.add_zero] at hla
              have HLA := Lib.hid hla
              have HNMX := Lib.hid (show nmX (st.out.modify n (cueU k)) = nmX st.out from nmX_modify fun _ => rfl)
              have hbd := HOK2.out.bd _ (List.getElem_mem hnl)
              obtain ⟨g, cap, rfl, hg1, hg2⟩ := Own.some_ (enc := Rx.cells) (hn := fun _ => rfl) G4.out.own (by omega)
              have hca := Own.cellAt (enc := Rx.cells) (hn := fun _ => rfl) G4.out.own n hnl 1 (by decide)
              have hcb := Own.cellAt (enc := Rx.cells) (hn := fun _ => rfl) G4.out.own n hnl 2 (by decide)
              have a1 : w9.cell? ⟨g, n * 4 + 1, none⟩ = some (.int .i64 st.out[n].sc) := hca.1
              have f1 := hca.2
              have a2 : w9.cell? ⟨g, n * 4 + 2, none⟩ = some (.int .i64 st.out[n].sp) := hcb.1
              have f2 := hcb.2
              have HM9 := Lib.hid (G4.out.map (b := M1) (mk := Value.string) (m := idxM (nmX st.out)) (by simp))
              have HM92 := Lib.hid (G4.out.map (b := M2) (mk := Value.string) (m := lm) (by simp))
              have hgM : g ≠ M2 := fun e => (G4.out.prv (M2, mapP Value.string lm) (by simp)).2.2.2 (by rw [← e]; rfl)
              have HEQ := Lib.hid (show st.out[n].last = k → st.out.modify n (fun r => { r with last := k, sp := st.out[n].sp + 1 }) = st.out.modify n (cueU k) from fun h => modAt hnl (by unfold cueU; rw [if_pos h]))
              have HNE := Lib.hid (show ¬ st.out[n].last = k → (st.out.modify n (fun r => { r with sc := st.out[n].sc + 1 })).modify n (fun r => { r with last := k, sp := st.out[n].sp + 1 }) = st.out.modify n (cueU k) from fun h => (modMod _ _ _ _).trans (modAt hnl (by unfold cueU; rw [if_neg h])))
              have HNL := Lib.hid hnl
              clear hps hnm hnm2 hnl2 hla hca hcb HN
              generalize (st.out[n]'hnl).last = z at *
              generalize (st.out[n]'hnl).sc = zc at *
              generalize (st.out[n]'hnl).sp = zs at *
              have ew1 : IntKind.i64.wrap (zc + 1) = zc + 1 := IntWalk.i64_in _ (by omega)
              have ew2 : IntKind.i64.wrap (zs + 1) = zs + 1 := IntWalk.i64_in _ (by omega)
              clear hbd
              obtain ⟨lo, hlo⟩ : ∃ lo, st.out.length = lo := ⟨_, rfl⟩
              have HLO := Lib.hid hlo
              rw [hlo] at hnl G4 ⊢
              have hnlo : (n : Int) < (lo : Int) := by omega
              clear hlo
              go_upto_region 21 with (first
                | (at_lookup; refine wpList_lookup_plain _ rfl _ _ 76 true rfl 9 3 keyS2 Tryz.underlying76 (.int .i64 0) (zeroI _) M1 (idxM (nmX st.out)) rfl HM9.out p.text rfl ?_; rw [HLK.out]; simp only [if_true, Option.getD_some, Option.isSome_some])
                | fail)
              by_cases hzk : z = k
              · have hzq : (z != (k : Int)) = false := by rw [hzk]; simp
                have HE := Lib.hid (HEQ.out hzk)
                clear hzk HEQ HNE
                go_upto_region 24 with (first
                  | (at_lookup; refine wpList_lookup_plain _ rfl _ _ 76 false rfl 9 3 keyS2 Tryz.underlying76 (.int .i64 0) (zeroI _) M2 lm rfl HM92.out p.text rfl ?_; rw [HLK2.out]; simp only [Bool.false_eq_true, if_false, Option.getD_some])
                  | (at_mapUpdate; refine wpList_update_plain _ rfl _ _ _ 76 rfl 9 3 keyS2 Tryz.underlying76 M2 lm rfl HM92.out p.text rfl (.int .i64 (k : Int)) rfl ?_; intro w12 hm12 hg12; have G9 := Lib.hid ((G4.out.less (Q := [(M2, mapP Value.string lm), (M1, mapP Value.string (idxM (nmX st.out)))]) (by simp)).put (by simp only [List.mem_cons, List.not_mem_nil, or_false, forall_eq_or_imp, forall_eq]; exact fun e => hMd e.symm) hm12 hg12); have a12 := (World.cell?_of_block (a := ⟨g, n * 4 + 2, none⟩) (hg12.block g hg2 (fun e => hgM (by injection e)))).trans a2; have f12 := (World.frozen?_of_block (a := ⟨g, n * 4 + 2, none⟩) (hg12.block g hg2 (fun e => hgM (by injection e)))).trans f2; clear hm12 hg12)
                  | fail)
                have G10 := Lib.hid (BM.modify (enc := Rx.cells) (hn := fun _ => rfl) G9.out (fun r => { r with last := k, sp := zs + 1 }) n 2 (.int .i64 (zs + 1)) (fun _ => rfl) (by decide) (by rw [HLO.out]; exact hnl))
                rw [HE.out] at G10
                clear a1 f1 a2 f2 hgM G9 HLK HLK2 HM9 HM92
                go_wp2
                go_roundw
                case rel => exact ⟨j + 1, _, by omega, intNum, by rw [HN2.out], by rw [HN2.out]; exact HLA, by rw [HN2.out, HNMX.out]; exact Lib.hid (G10.out.less (by simp))⟩
                case measure => simp [intOf]; omega
              · have hzq : (z != (k : Int)) = true := bne_iff_ne.2 hzk
                have HE := Lib.hid (HNE.out hzk)
                clear hzk HEQ HNE
                have G8 := Lib.hid (BM.modify (enc := Rx.cells) (hn := fun _ => rfl) G4.out (fun r => { r with sc := zc + 1 }) n 1 (.int .i64 (zc + 1)) (fun _ => rfl) (by decide) (by rw [HLO.out]; exact hnl))
                go_upto_region 23 with (first
                  | (at_lookup; refine wpList_lookup_plain _ rfl _ _ 76 false rfl 9 3 keyS2 Tryz.underlying76 (.int .i64 0) (zeroI _) M2 lm rfl HM92.out p.text rfl ?_; rw [HLK2.out]; simp only [Bool.false_eq_true, if_false, Option.getD_some])
                  | fail)
                have b2 : (w9.setCell ⟨g, n * 4 + 1, none⟩ (.int .i64 (zc + 1))).cell? ⟨g, n * 4 + 2, none⟩ = some (.int .i64 zs) := by
                  exact (World.cell?_setCell_other w9 ⟨g, n * 4 + 1, none⟩ ⟨g, n * 4 + 2, none⟩ _ (by simp)).trans a2
                have g2 : (w9.setCell ⟨g, n * 4 + 1, none⟩ (.int .i64 (zc + 1))).frozen? ⟨g, n * 4 + 2, none⟩ = false := by rw [frozen_setCell]; exact f2
                have HM8 := Lib.hid (G8.out.map (b := M2) (mk := Value.string) (m := lm) (by simp))
                have d8 := (HCL.out _ _ _ _ G8.out (by simp)).2
                have hg8 : g < (w9.setCell ⟨g, n * 4 + 1, none⟩ (.int .i64 (zc + 1))).heap.size := by simpa [World.setCell] using hg2
                clear a1 f1 a2 f2 d0 d1 HM9 HM92 HLK HLK2 G4
                generalize w9.setCell ⟨g, n * 4 + 1, none⟩ (.int .i64 (zc + 1)) = w8 at *
                go_upto_region 24 with (first
                  | (at_mapUpdate; refine wpList_update_plain _ rfl _ _ _ 76 rfl 9 3 keyS2 Tryz.underlying76 M2 lm rfl HM8.out p.text rfl (.int .i64 (k : Int)) rfl ?_; intro w12 hm12 hg12; have G9 := Lib.hid ((G8.out.less (Q := [(M2, mapP Value.string lm), (M1, mapP Value.string (idxM (nmX st.out)))]) (by simp)).put (by simp only [List.mem_cons, List.not_mem_nil, or_false, forall_eq_or_imp, forall_eq]; exact fun e => hMd e.symm) hm12 hg12); have a12 := (World.cell?_of_block (a := ⟨g, n * 4 + 2, none⟩) (hg12.block g hg8 (fun e => hgM (by injection e)))).trans b2; have f12 := (World.frozen?_of_block (a := ⟨g, n * 4 + 2, none⟩) (hg12.block g hg8 (fun e => hgM (by injection e)))).trans g2; clear hm12 hg12)
                  | fail)
                have G10 := Lib.hid (BM.modify (enc := Rx.cells) (hn := fun _ => rfl) G9.out (fun r => { r with last := k, sp := zs + 1 }) n 2 (.int .i64 (zs + 1)) (fun _ => rfl) (by decide) (by rw [List.length_modify, HLO.out]; exact hnl))
                rw [HE.out] at G10
                clear b2 g2 d8 HM8 hg8 hgM G8 G9
                go_wp2
                go_roundw
                case rel => exact ⟨j + 1, _, by omega, intNum, by rw [HN2.out], by rw [HN2.out]; exact HLA, by rw [HN2.out, HNMX.out]; exact Lib.hid (G10.out.less (by simp))⟩
                case measure => simp [intOf]; omega
          by_cases h4 : p.kind = 4
          · have e2 : (p.kind == 2) = false := beq_eq_false_iff_ne.2 h2
            have e4 : (p.kind == 4) = true := beq_iff_eq.2 h4
            have HN := Lib.hid (HNX2.out.trans (by unfold parS; rw [if_neg h2, if_pos h4]; rfl : _ = (⟨st.out.modify st.k (wdU p.text), st.k⟩ : Cst)))
            have hkl := hpk (.inr h4)
            obtain ⟨g, cap, rfl, hg1, hg2⟩ := Own.some_ (enc := Rx.cells) (hn := fun _ => rfl) G4.out.own (by omega)
            have hca := Own.cellAt (enc := Rx.cells) (hn := fun _ => rfl) G4.out.own st.k hkl 3 (by decide)
            have hbd := HOK2.out.bd _ (List.getElem_mem hkl)
            have hwl := wordsT_len p.text
            have HMD := Lib.hid (show st.out.modify st.k (fun r => { r with wd := st.out[st.k].wd + (wordsT p.text).length }) = st.out.modify st.k (wdU p.text) from modAt hkl rfl)
            have HKL := Lib.hid hkl
            have HLM2 := Lib.hid (HLM.out.keep st.k (wdU p.text) (fun _ => rfl) (fun _ _ => rfl))
            have hz3 : w9.cell? ⟨g, st.k * 4 + 3, none⟩ = some (.int .i64 (st.out[st.k]'hkl).wd) := hca.1
            have hf3 := hca.2
            generalize (st.out[st.k]'hkl).wd = z at *
            clear hca
            obtain ⟨n, hn⟩ : ∃ n, st.k = n := ⟨_, rfl⟩
            have HNK := Lib.hid hn
            rw [hn] at hz3 hf3 hkl ⊢
            have hnl : (n : Int) < (st.out.length : Int) := by omega
            have HFZ := Lib.hid hf3
            obtain ⟨q, hq⟩ : ∃ q, (wordsT p.text).length = q := ⟨_, rfl⟩
            have HQ := Lib.hid hq
            rw [hq] at hwl HMD
            have ew : IntKind.i64.wrap (z + q) = z + q := IntWalk.i64_in _ (by omega)
            have hYg : Y ≠ g := fun e => (G4.out.prv (Y, cellsP #[.int .i64 p.kind, .string p.text] 78) (by simp)).2.2.2 (by rw [e]; rfl)
            have hg29 : g < w9.heap.size := hg2
            obtain ⟨ι, ff, hne, hff, hfS⟩ := family (fun W => W.cell? ⟨g, n * 4 + 3, none⟩ = some (.int .i64 z) ∧ W.cell? ⟨Y, 1, none⟩ = some (.string p.text)) w9 ⟨hz3, d1⟩
            have q0 := fun p => (hff p).1
            have q1 := fun p => (hff p).2
            have HFS := Lib.hid hfS
            have HZ := Lib.hid (And.intro hz3 d1)
            have HWD := Lib.hid (Words_c p.text w9.drew (by omega))
            clear h2 h4 hff hfS hbd hpk hq hz3 hn hf3
            obtain ⟨lo, hlo⟩ : ∃ lo, st.out.length = lo := ⟨_, rfl⟩
            have HLO := Lib.hid hlo
            rw [hlo] at hkl hnl G4 ⊢
            clear hlo
            go_upto_region 26 with (fail)
            refine wp_region_segs3 [7, 8] [] [] [([0, 1, 2, 3, 5], [4, 6], 7), ([], [], 8), ([9, 10, 11], [], 12)] (by kernel_rfl) (by kernel_rfl) (fun _ _ _ dd _ h => by cases dd <;> exact h) (fun W => ∃ p : ι, W = ff p) (HFS.out _ HZ.out) ?_
            refine wpSegs3_step (by simp only [pick, List.getElem?_cons_succ, List.getElem?_cons_zero]; rfl) (by simp only [pick, List.getElem?_cons_succ, List.getElem?_cons_zero]; rfl) rfl (fun K0 hK0 L0 hL0 => ?_)
            repeat (first | go_big_quiet_step (fail) | quiet_step (fail))
            refine wpQuiet_nil (hL0 _ ?_)
            repeat (first | go_big_quiet_step (fail) | quiet_step (fail))
            refine wpQuiet_nil ?_
            refine Or.inl ⟨by kernel_rfl, ?_⟩
            go_simp
            refine HWD.out.mono ?_
            rintro e w10 ⟨vw, rfl, hown10, hb10⟩
            have G5 := Lib.hid (G4.out.drew.below hb10)
            have hsl := hown10.sliF (F := fun _ => True) (enc := fun x : ByteArray => [.string x]) (hn := fun _ => rfl) (fun _ _ => trivial)
            obtain ⟨Aw, cw, rfl, _, _⟩ := hsl.form
            rw [HQ.out]
            have hz10 : w10.cell? ⟨g, n * 4 + 3, none⟩ = some (.int .i64 z) := (hb10.cell (p := ⟨g, n * 4 + 3, none⟩) hg29).trans HZ.out.1
            have hd10 : w10.cell? ⟨Y, 1, none⟩ = some (.string p.text) := (hb10.cell (p := ⟨Y, 1, none⟩) hY9).trans HZ.out.2
            have hf10 : w10.frozen? ⟨g, n * 4 + 3, none⟩ = false := (hb10.frozen (p := ⟨g, n * 4 + 3, none⟩) hg29).trans HFZ.out
            have HS10 := Lib.hid (HFS.out _ ⟨hz10, hd10⟩)
            have G6 := Lib.hid (BM.modify (enc := Rx.cells) (hn := fun _ => rfl) G5.out (fun r => { r with wd := z + q }) n 3 (.int .i64 (z + q)) (fun x => rfl) (by decide) (by rw [HLO.out]; exact hkl))
            clear hsl hown10 hb10 hd10 G5 HWD
            refine hK0 (fun W => ∃ p : ι, W = ff p) _ _ (fun _ h => h) HS10.out ?_
            refine wpSegs3_step (by simp only [pick, List.getElem?_cons_succ, List.getElem?_cons_zero]; rfl) (by simp only [pick, List.getElem?_cons_succ, List.getElem?_cons_zero]; rfl) rfl (fun K1 hK1 L1 hL1 => ?_)
            repeat (first | go_big_quiet_step (fail) | quiet_step (fail))
            refine wpQuiet_nil (hL1 _ ?_)
            repeat (first | go_big_quiet_step (fail) | quiet_step (fail))
            refine wpQuiet_nil ?_
            refine Or.inl ⟨by kernel_rfl, ?_⟩
            go_simp
            refine hK1 (fun W => ∃ p : ι, W = ff p) _ _ (fun _ h => h) HS10.out ?_
            refine wpSegs3_last (by simp only [pick, List.getElem?_cons_succ, List.getElem?_cons_zero]; rfl) (by simp only [pick, List.getElem?_cons_succ, List.getElem?_cons_zero]; rfl) rfl (by rfl) (fun K2 hK2 L2 hL2 => ?_)
            repeat (first | go_big_quiet_step (fail) | quiet_step (fail))
            refine wpQuiet_nil (hL2 _ ?_)
            repeat (first | go_big_quiet_step (fail) | quiet_step (fail))
            refine wpQuiet_nil ?_
            refine Or.inl ⟨by kernel_rfl, ?_⟩
            go_simp
            refine hK2 _ _ (wpSegs3_end ?_)
            clear q0 q1
            go_wp2
            go_roundw
            case rel => exact ⟨j + 1, lm, by omega, intNum, by rw [HN.out, ← HNK.out], by rw [HN.out]; exact HLM2, by rw [HN.out, ← HMD.out, HNK.out]; dsimp only; rw [nmX_mod]; exact Lib.hid (G6.out.less (by simp))⟩
            case measure => simp [intOf]; omega
          have e2 : (p.kind == 2) = false := beq_eq_false_iff_ne.2 h2
          have e4 : (p.kind == 4) = false := beq_eq_false_iff_ne.2 h4
          have HN := Lib.hid (HNX2.out.trans (by unfold parS; rw [if_neg h2, if_neg h4]))
          clear h2 h4
          go_wp2
          go_roundw
          case rel => exact ⟨j + 1, lm, by omega, intNum, by rw [HN.out], by rw [HN.out]; exact HLM, by rw [HN.out]; exact Lib.hid (G4.out.less (by simp))⟩
          case measure => simp [intOf]; omega
        · have HE := Lib.hid (show castN (ls.map (·.1)) (k + 1) = (parN k out x.paras j).out by rw [HNX.out, show j = M by omega])
          go_wp2
          go_roundw
          case rel => exact ⟨k + 1, lm, by omega, intNum, by rw [HE.out]; exact HLM, by rw [HE.out]; exact HG⟩
          case measure => simp [intOf]; omega
    · have HE := Lib.hid (show castS (ls.map (·.1)) = castN (ls.map (·.1)) k by unfold castS; rw [List.length_map, HL.out, show L = k by omega])
      go_wp2
      go_ret2
      exact ⟨_, 0, rfl, HB2.out.trans (HG.out.bel.mono HB2.out.size), HC.out, .inr ⟨rfl, by rw [HE.out]; exact HG.out.own.less (enc := Rx.cells) (hn := fun _ => rfl) HB2.out.size⟩⟩
end Go.Proofs.YtkhegeobdcemkaaGreatDoor

