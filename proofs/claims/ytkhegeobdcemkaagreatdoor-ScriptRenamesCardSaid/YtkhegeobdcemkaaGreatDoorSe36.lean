/- Texts packed: CoX. -/
import Derived.Test.YtkhegeobdcemkaaGreatDoorSe35
import Derived.Test.YtkhegeobdcemkaaGreatDoorSe34
/- R.CastOf, walked. -/
namespace Go.Proofs.YtkhegeobdcemkaaGreatDoor
set_option linter.unusedVariables false
open Go.RowKit Go.Sort

theorem gp_at {w : World} {F : Nat → Prop} {l : List Grp} {A : Option Addr} {n c : Nat} (h : Sli gpR w F l (.slice A n c)) (k : Nat) (hk : k < l.length) :
    ∃ b off, A = some ⟨b, off, none⟩ ∧ F b ∧ w.cell? ⟨b, off + k * 3, none⟩ = some (.int .i64 (l[k].1 : Int)) ∧ w.cell? ⟨b, off + k * 3 + 1, none⟩ = some (.int .i64 (l[k].2.1 : Int)) ∧ w.cell? ⟨b, off + k * 3 + 2, none⟩ = some (.string l[k].2.2) := by
  obtain ⟨b, off, a, ea, hb, e, hc⟩ := h.at_ k hk
  have e' : a = [.int .i64 (l[k].1 : Int), .int .i64 (l[k].2.1 : Int), .string l[k].2.2] := e
  subst e'
  exact ⟨b, off, ea, hb, hc 0 _ rfl, hc 1 _ rfl, hc 2 _ rfl⟩
def CoP (l : List Scene) (w : World) (e : Ending) (w' : World) : Prop := ∃ v, e = .returned v ∧ Below w.heap.size w w' ∧ Own rxR w' w.heap.size w.heap.size 41 (castS l) v
set_option maxRecDepth 100000 in
set_option maxHeartbeats 4000000 in
theorem CastOf_c {F : Nat → Prop} (t : ByteArray) (ls : List (Scene × Value)) (v : Value) (w : World) (h : Sc2 w F ls v) (hB : FdB (ls.map (·.1))) (hr : ∀ x ∈ ls.map (·.1), RtP x.paras) :
    Calls Tryz.prog 14 #[.agg #[.string t, v]] w (CoP (ls.map (·.1)) w) := by
  obtain ⟨i0, hi0, hz0, hz1, hz2⟩ := info_parts (show (Tryz.prog.info? 41).map (fun i => (i.zero, i.size, i.bytes)) = some (some (.agg #[.string ⟨#[]⟩, .int .i64 0, .int .i64 0, .int .i64 0]), 4, 40) by kernel_rfl)
  obtain ⟨A, c, rfl, hlc, hcm⟩ := h.sli.form
  have HH := Lib.hid h
  have HRT := Lib.hid hr
  have HBB := Lib.hid hB.2
  obtain ⟨L, hL⟩ : ∃ L, ls.length = L := ⟨_, rfl⟩
  have HL := Lib.hid hL
  have hL1 : L ≤ 1000 := by have := hB.1; rw [List.length_map] at this; omega
  rw [hL] at HH hlc ⊢
  clear h hr hB hL
  have G0 := ((BM.start (n := 4) (enc := Rx.cells) (hn := fun _ => rfl) (e := 41) w).alloc (.cells #[.string t, .slice A L c] 28))
  go_enter Tryz.func14, Tryz.ntmps14
  go_upto_region 2 with (fail)
  generalize hW : w.alloc (.cells #[.string t, .slice A L c] 28) = w1 at *
  have y1 : w1.cell? ⟨w.heap.size, 1, none⟩ = some (.slice A L c) := by rw [← hW]; exact (str_cells (heap_alloc_new w _)).1 1
  have hz1' : w.heap.size < w1.heap.size := by rw [← hW]; simp
  clear hW
  have hmm := @run_makeMap Tryz.prog
  go_upto_region 3 with (fail)
  clear hmm
  have G1 := Lib.hid (show RxG w (castN (ls.map (·.1)) 0) (.slice none 0 0) [(w1.heap.size, mapP Value.string ([] : List (ByteArray × Value)))] (w1.alloc (.map #[] 0)) from G0.newMap Value.string)
  have y1' : (w1.alloc (.map #[] 0)).cell? ⟨w.heap.size, 1, none⟩ = some (.slice A L c) := (World.cell?_alloc_lt w1 _ ⟨w.heap.size, 1, none⟩ hz1').trans y1
  clear y1 G0
  generalize w1.alloc (.map #[] 0) = w3 at *
  generalize w1.heap.size = M1 at *
  have HL0 := Lib.hid (show LmOk [] 1 (castN (ls.map (·.1)) 0) from LmOk.nil 1)
  go_wp2
  go_loopw [3, 16] (fun v i wr => ∃ (k : Nat) (lm : List (ByteArray × Value)), k ≤ L ∧ i = .int .i64 k ∧ Hid (LmOk lm 1 (castN (ls.map (·.1)) k)) ∧ Hid (RxG w (castN (ls.map (·.1)) k) v [(M1, mapP Value.string lm)] wr)) (fun _ i _ => L - (intOf i).toNat)
  case atStart => exact ⟨0, [], Nat.zero_le _, rfl, HL0, G1⟩
  case round =>
    clear G1 y1' HL0
    obtain ⟨k, lm, hk, rfl, HLM, HG⟩ := hrel
    by_cases hlt : k < L
    · have hk2 : k < ls.length := by rw [HL.out]; exact hlt
      obtain ⟨b, off, rfl, hfb, c0, c1, c2, c3, c4⟩ := scAt (HH.out.below HG.out.bel).sli k hk2
      have hmem := List.getElem_mem hk2
      have hpa := HH.out.par _ hmem
      obtain ⟨A4, cc4, h4, _, _⟩ := hpa.form
      have hkm : k < (ls.map (·.1)).length := by rw [List.length_map]; exact hk2
      have hgm : (ls.map (·.1))[k]'hkm = (ls[k]'hk2).1 := List.getElem_map ..
      have hnx := castN_next (xs := ls.map (·.1)) hkm
      have hbd := HBB.out _ (List.getElem_mem hkm)
      have hrt := HRT.out _ (List.getElem_mem hkm)
      rw [hgm] at hnx hbd hrt
      rw [h4] at c4 hpa
      have hbw : b < wr.heap.size := Nat.lt_of_lt_of_le (HH.out.lt b hfb) HG.out.size
      have hok := castN_ok (xs := ls.map (·.1)) HBB.out k
      clear h4 hmem hkm hgm
      generalize (ls[k]'hk2).1 = x at *
      have HNX := Lib.hid hnx
      have HPA := Lib.hid hpa
      have HBD := Lib.hid hbd.2
      have hpl := hbd.1
      have HRP := Lib.hid hrt
      have HOK := Lib.hid (parN_ok (i := k) hok hbd.2)
      have HPK := Lib.hid (fun j hj h => parN_k (i := k) hok hbd.2 hrt j hj h)
      have HCH := Lib.hid (grpS_ch hrt)
      obtain ⟨M, hM⟩ : ∃ M, x.paras.length = M := ⟨_, rfl⟩
      have HM := Lib.hid hM
      rw [hM] at c4 HPA hpl HNX
      generalize castN (ls.map (·.1)) k = out at *
      have G2 := HG.out.new #[.string x.no, .int .i64 x.place, .string x.set, .int .i64 x.time, .slice A4 M cc4] 71
      have hM1 : M1 < wr.heap.size := (HG.out.plt (b := M1) (f := mapP Value.string lm) (by simp)).2
      clear hpa hbd hM hnx hk2 hrt hok HG
      go_upto_region 6 with (fail)
      generalize hW : wr.alloc (.cells #[.string x.no, .int .i64 x.place, .string x.set, .int .i64 x.time, .slice A4 M cc4] 71) = w5 at *
      obtain ⟨gx, _⟩ := G2.cell (b := wr.heap.size) (cs := #[.string x.no, .int .i64 x.place, .string x.set, .int .i64 x.time, .slice A4 M cc4]) (T := 71) (by simp)
      have s0 : w5.cell? ⟨wr.heap.size, 0, none⟩ = some (.string x.no) := gx 0
      have s1 : w5.cell? ⟨wr.heap.size, 1, none⟩ = some (.int .i64 x.place) := gx 1
      have s2 : w5.cell? ⟨wr.heap.size, 2, none⟩ = some (.string x.set) := gx 2
      have s3 : w5.cell? ⟨wr.heap.size, 3, none⟩ = some (.int .i64 x.time) := gx 3
      have s4 : w5.cell? ⟨wr.heap.size, 4, none⟩ = some (.slice A4 M cc4) := gx 4
      have G3 := Lib.hid G2
      have HGO := Lib.hid (groupsOf_c x (.slice A4 M cc4) w5 (HPA.out.below G2.bel HH.out.lt) (fun q hq => Nat.lt_of_lt_of_le (HH.out.lt q hq) G2.size) (by rw [HM.out]; exact hpl) HRP.out)
      have hXM : wr.heap.size ≠ M1 := by omega
      clear gx c0 c1 c2 c3 c4 hW G2
      generalize wr.heap.size = X at *
      go_wp2_with fail
      refine HGO.out.mono ?_
      rintro e w6 ⟨v6, rfl, hb6, hown6⟩
      have HSL := Lib.hid (fun (W : World) l v P (hW : RxG w l v P W) (hP : ∀ p ∈ keepP v6 w6, p ∈ P) => show Sli gpR W (fun q => v6.ownBlock = some q) (grpS x.paras) v6 ∧ ∀ q, v6.ownBlock = some q → q < W.heap.size from ⟨BM.sliK hW hP hown6, fun q hq => (hW.plt (b := q) (f := fun o => o = w6.heap[q]?) (hP _ (by unfold keepP; rw [hq]; simp))).2⟩)
      have hKP : ∀ p ∈ keepP v6 w6, p.1 ≠ M1 := fun p hp => by
        have h1 := (hown6.block _ (keepP_mem hp).1).1
        have h2 := (G3.out.plt (b := M1) (f := mapP Value.string lm) (by simp)).2
        omega
      have HKP := Lib.hid hKP
      have G6 := G3.out.keepNew hb6 hown6
      obtain ⟨A6, c6, hv6, _, _⟩ := (HSL.out _ _ _ _ G6 (fun p hp => List.mem_append_left _ hp)).1.form
      obtain ⟨KP, hkp⟩ : ∃ KP, keepP v6 w6 = KP := ⟨_, rfl⟩
      rw [hkp] at HSL HKP G6
      obtain ⟨gs, hgs⟩ : ∃ gs, grpS x.paras = gs := ⟨_, rfl⟩
      rw [hgs] at HSL HCH hv6
      have HGS := Lib.hid hgs
      obtain ⟨K, hK⟩ : ∃ K, gs.length = K := ⟨_, rfl⟩
      have HK := Lib.hid hK
      rw [hK] at hv6
      obtain ⟨F6, hF6⟩ : ∃ F6 : Nat → Prop, F6 = fun q => v6.ownBlock = some q := ⟨_, rfl⟩
      have HSL := Lib.hid (show ∀ (W : World) l v P, RxG w l v P W → (∀ p ∈ KP, p ∈ P) → Sli gpR W F6 gs v6 ∧ ∀ q, F6 q → q < W.heap.size from fun W l v P h1 h2 => by rw [hF6]; exact HSL.out W l v P h1 h2)
      rw [hv6] at HSL ⊢
      have hKM : K ≤ M := by have := HCH.out.len; rw [HM.out, hK] at this; exact this
      have G7 := Lib.hid (show RxG w (parN k out x.paras (frm gs M 0)).out u3 (KP ++ [(X, cellsP #[.string x.no, .int .i64 x.place, .string x.set, .int .i64 x.time, .slice A4 M cc4] 71), (M1, mapP Value.string lm)]) w6 by
        have h0 := HCH.out.zero
        rw [HM.out] at h0
        rw [h0]
        exact G6)
      have HLM7 := Lib.hid (show LmOk lm 1 (parN k out x.paras (frm gs M 0)).out by
        have h0 := HCH.out.zero
        rw [HM.out] at h0
        rw [h0]
        exact HLM.out)
      clear hb6 hown6 hkp hgs hK hF6 hv6 hKP HGO G3 HLM s0 s1 s2 s3 s4 G6
      go_wp2
      go_loopw [3, 24] (fun v i wr => ∃ (j : Nat) (lm : List (ByteArray × Value)), j ≤ K ∧ i = .int .i64 j ∧ Hid (LmOk lm 1 (parN k out x.paras (frm gs M j)).out) ∧ Hid (RxG w (parN k out x.paras (frm gs M j)).out v (KP ++ [(X, cellsP #[.string x.no, .int .i64 x.place, .string x.set, .int .i64 x.time, .slice A4 M cc4] 71), (M1, mapP Value.string lm)]) wr)) (fun _ i _ => K - (intOf i).toNat)
      case atStart => exact ⟨0, lm, Nat.zero_le _, rfl, HLM7, G7⟩
      case round =>
        clear G7 HLM7
        obtain ⟨j, lm, hj, rfl, HLM, HG⟩ := hrel
        by_cases hlj : j < K
        · have hj2 : j < gs.length := by rw [HK.out]; exact hlj
          obtain ⟨hsl, hslt⟩ := HSL.out _ _ _ _ HG.out (fun p hp => List.mem_append_left _ hp)
          obtain ⟨bg, offg, rfl, hfg, g0, g1, g2⟩ := gp_at hsl j hj2
          have hbg := hslt bg hfg
          have hgo := HCH.out.ok _ (List.getElem_mem hj2)
          have hgn := HCH.out.next j hj2
          have hfr : frm gs M j = (gs[j]'hj2).1 := by unfold frm; rw [List.getElem?_eq_getElem hj2]; rfl
          rw [HM.out] at hgn
          rw [hfr] at HLM HG
          generalize (gs[j]'hj2) = gp at *
          obtain ⟨a, b2, nm⟩ := gp
          dsimp only at g0 g1 g2 hgn HLM HG
          have hlt2 := hgo.lt
          have hle2 := hgo.le
          dsimp only at hlt2 hle2
          rw [HM.out] at hle2
          have HGO := Lib.hid hgo
          have HGN := Lib.hid hgn
          have G8 := Lib.hid (HG.out.new #[.int .i64 (a : Int), .int .i64 (b2 : Int), .string nm] 88)
          have hYM : wr.heap.size ≠ M1 := by have := (HG.out.plt (b := M1) (f := mapP Value.string lm) (by simp)).2; omega
          have hYK : ∀ p ∈ KP, p.1 ≠ wr.heap.size := fun p hp => by have := (HG.out.plt (b := p.1) (f := p.2) (by simp [hp])).2; omega
          have HYK := Lib.hid hYK
          clear hsl hslt hj2 hgo hgn hfr HG hYK hfg
          go_upto_region 9 with (fail)
          generalize hW : wr.alloc (.cells #[.int .i64 (a : Int), .int .i64 (b2 : Int), .string nm] 88) = w9 at *
          have hY9 := (G8.out.plt (b := wr.heap.size) (List.mem_cons_self ..)).2
          generalize wr.heap.size = Y at *
          have HCY := Lib.hid (fun (W : World) l v P (hW : RxG w l v P W) (hm : (Y, cellsP #[.int .i64 (a : Int), .int .i64 (b2 : Int), .string nm] 88) ∈ P) => show W.cell? ⟨Y, 0, none⟩ = some (.int .i64 (a : Int)) ∧ W.cell? ⟨Y, 1, none⟩ = some (.int .i64 (b2 : Int)) ∧ W.cell? ⟨Y, 2, none⟩ = some (.string nm) from ⟨(hW.cell hm).1 0, (hW.cell hm).1 1, (hW.cell hm).1 2⟩)
          obtain ⟨d0, d1, d2⟩ := HCY.out _ _ _ _ G8.out (List.mem_cons_self ..)
          clear hW g0 g1 g2
          have hap : a < x.paras.length := by rw [HM.out]; omega
          have hcue := HGO.out.cue (x.paras[a]'hap) (by rw [List.getElem?_eq_getElem hap]; rfl)
          have hno := HGO.out.no (x.paras[a]'hap) (by rw [List.getElem?_eq_getElem hap]; rfl)
          have hfs := HGO.out.fst (x.paras[a]'hap) (by rw [List.getElem?_eq_getElem hap]; rfl)
          have hkd := HRP.out.kinds a hap
          have HNA := Lib.hid (parN_next (i := k) (out := out) hap)
          have HPKA := Lib.hid (HPK.out a hap)
          generalize hpa2 : (x.paras[a]'hap) = pa at *
          have HPA2 := Lib.hid hpa2
          clear hpa2
          dsimp only at hcue hno
          by_cases h2 : pa.kind = 2
          case neg =>
            obtain ⟨rfl, hb1⟩ := hno h2
            have HST := Lib.hid (show parN k out x.paras (frm gs M (j + 1)) = parN k out x.paras a by
              rw [← HGN.out, hb1, HNA.out]
              unfold parS
              rw [if_neg h2, if_neg hfs.2])
            clear h2 hb1 hno hcue hfs hkd
            go_wp2
            go_roundw
            case rel => exact ⟨j + 1, lm, by omega, intNum, by rw [HST.out]; exact HLM, by rw [HST.out]; exact Lib.hid (G8.out.less (fun p hp => List.mem_cons_of_mem _ hp))⟩
            case measure => simp [intOf]; omega
          have hnm := hcue h2
          have hns : 0 < nm.size := by rw [hnm]; exact hkd.2.2
          have HNS := Lib.hid (show parN k out x.paras (a + 1) = cueS k nm (parN k out x.paras a) by
            rw [HNA.out]
            unfold parS
            rw [if_pos h2, hnm])
          have HK1 := Lib.hid (HPKA.out (.inl h2))
          have hne : ¬ nm = ⟨#[]⟩ := fun e => by rw [e] at hns; exact absurd hns (by decide)
          have he : nm.toList.isEmpty = false := Bool.eq_false_iff.2 (fun h => hne ((empty_iff nm).1 h))
          have H2K := Lib.hid h2
          have hok := HOK.out a
          generalize hst : parN k out x.paras a = st at *
          have HST := Lib.hid hst
          have HPX := Lib.hid (idxRole_c (F := fun q => q < w9.heap.size) st.out u3 49 #[.pointer (some ⟨Y, 0, none⟩)] (fun y => decide (y.nm = nm)) w9 (G8.out.own.sliF (enc := Rx.cells) (hn := fun _ => rfl) (fun g hg => (G8.out.own.block g hg).2)) (fun q hq => hq) (by have := hok.len; omega) (castOf1_p nm Y w9 d2 hY9))
          obtain ⟨z, hz⟩ : ∃ z, idxV (st.out.findIdx? fun y => decide (y.nm = nm)) = z := ⟨_, rfl⟩
          have HZ := Lib.hid (show (∃ n, posX st.out nm = some n ∧ z = n) ∨ (posX st.out nm = none ∧ z = -1) by
            rw [← hz]
            unfold posX
            cases st.out.findIdx? fun y => decide (y.nm = nm) with
            | some n => exact .inl ⟨n, rfl, rfl⟩
            | none => exact .inr ⟨rfl, rfl⟩)
          rw [hz] at HPX
          have HOK2 := Lib.hid hok
          clear hz hok
          clear hno hcue hfs hkd h2 hnm HNA HPKA hst hne hns
          go_wp2_with fail
          refine HPX.out.mono ?_
          rintro e w10 ⟨rfl, hb10⟩
          have G10 := Lib.hid (G8.out.below hb10)
          obtain ⟨e0, e1, e2⟩ := HCY.out _ _ _ _ G10.out (List.mem_cons_self ..)
          clear hb10 HPX G8 d0 d1 d2
          have hCA : 0 ≤ (k : Int) := by omega
          go_upto_if 35 with (fail)
          go_cut [3, 9] (fun v kv wx => ∃ (l1 : List Rx) (n : Nat), kv = .int .i64 n ∧ Hid (CuR k nm st lm (100000 * k + a) l1 n) ∧ Hid (RxG w l1 v ((Y, cellsP #[.int .i64 (a : Int), .int .i64 (b2 : Int), .string nm] 88) :: (KP ++ [(X, cellsP #[.string x.no, .int .i64 x.place, .string x.set, .int .i64 x.time, .slice A4 M cc4] 71), (M1, mapP Value.string lm)])) wx))
          case first =>
            rcases HZ.out with ⟨n, hp, rfl⟩ | ⟨hp, rfl⟩
            · have HC := Lib.hid (CuR.found (k := (k : Int)) HOK2.out HLM.out hp)
              have hq : ¬ (n : Int) < 0 := by omega
              clear hp HZ
              go_wp2
              go_meet
              exact ⟨st.out, n, rfl, HC, G10⟩
            · have HC := Lib.hid (CuR.new (k := (k : Int)) (c := 100000 * k + a) hCA HLM.out hp)
              clear hp HZ
              have hlb := HOK2.out.len
              obtain ⟨m, hm⟩ : ∃ m, st.out.length = m := ⟨_, rfl⟩
              have HL1 := Lib.hid hm
              rw [hm] at HC hlb
              obtain ⟨A5, c5, rfl, _, _⟩ := (G10.out.own.sliF (F := fun _ => True) (enc := Rx.cells) (hn := fun _ => rfl) (fun _ _ => trivial)).form
              rw [hm] at G10 ⊢
              clear hm e0 e1
              go_upto_region 13 with (fail)
              generalize Value.slice A5 m c5 = va at *
              go_wp2_with (at_builtin; (refine wpList_pushB (R := rxR) rfl _ _ _ rfl w.heap.size w.heap.size 41 i0 _ 40 Tryz.underlying30 hi0 hz0 (by assumption) (by assumption) rfl (by decide) _ va st.out rfl (G10.out.own.alloc _) ⟨nm, -1, 0, 0, 0⟩ [.string nm, .int .i64 0, .int .i64 0, .int .i64 0] rfl (oneC rfl) w10.heap.size _ _ (heap_alloc_new w10 _) rfl (by rw [HL1.out]; simp [maxLen]; omega) (by rw [HL1.out]; omega) (by have := G10.out.bel.size; simp; omega) ?_); rw [HL1.out]; intro g cap w7 hown7 hg7 hat7 hlt7)
              have G7 := Lib.hid ((G10.out.alloc (.cells #[.string nm, .int .i64 0, .int .i64 0, .int .i64 0] 41)).more hown7 hg7 rfl hat7)
              go_meet
              exact ⟨_, m, rfl, HC, G7⟩
          case rest =>
            clear HZ G10 e0 e1 e2
            obtain ⟨l1, n, rfl, HC, HG⟩ := hcut
            have hn := HC.out.lt
            have HCE := Lib.hid HC.out.eq
            have HCP := Lib.hid HC.out.put
            have hget := HC.out.get _ (by rw [List.getElem?_eq_getElem hn]; rfl)
            obtain ⟨g, cap, rfl, hg1, hg2⟩ := Own.some_ (enc := Rx.cells) (hn := fun _ => rfl) HG.out.own (by omega)
            have hca := Own.cellAt (enc := Rx.cells) (hn := fun _ => rfl) HG.out.own n hn 1 (by decide)
            have hcb := Own.cellAt (enc := Rx.cells) (hn := fun _ => rfl) HG.out.own n hn 2 (by decide)
            have a1 : wc.cell? ⟨g, n * 4 + 1, none⟩ = some (.int .i64 l1[n].sc) := hca.1
            have f1 := hca.2
            have a2 : wc.cell? ⟨g, n * 4 + 2, none⟩ = some (.int .i64 l1[n].sp) := hcb.1
            have f2 := hcb.2
            have hgM : g ≠ M1 := fun e => (HG.out.prv (M1, mapP Value.string lm) (by simp)).2.2.2 (by rw [← e]; rfl)
            have HEQ := Lib.hid (show l1[n].last = k → l1.modify n (fun r => { r with last := k, sp := l1[n].sp + 1 }) = l1.modify n (cueU k) from fun h => modAt hn (by unfold cueU; rw [if_pos h]))
            have HNE := Lib.hid (show ¬ l1[n].last = k → (l1.modify n (fun r => { r with last := k, sp := l1[n].sp + 1 })).modify n (fun r => { r with sc := l1[n].sc + 1 }) = l1.modify n (cueU k) from fun h => (modMod _ _ _ _).trans (modAt hn (by unfold cueU; rw [if_neg h])))
            have G11 := Lib.hid (BM.modify (enc := Rx.cells) (hn := fun _ => rfl) HG.out (fun r => { r with last := k, sp := l1[n].sp + 1 }) n 2 (.int .i64 (l1[n].sp + 1)) (fun _ => rfl) (by decide) hn)
            have hlb : l1.length ≤ 100000000 + 200000 := by
              have h1 := (HOK2.out.cue k nm).1.len
              rw [HCE.out, List.length_modify] at h1
              omega
            clear hca hcb HG HC
            generalize (l1[n]'hn).last = z at *
            generalize (l1[n]'hn).sc = zc at *
            generalize (l1[n]'hn).sp = zs at *
            have ew1 : IntKind.i64.wrap (zc + 1) = zc + 1 := IntWalk.i64_in _ (by omega)
            have ew2 : IntKind.i64.wrap (zs + 1) = zs + 1 := IntWalk.i64_in _ (by omega)
            have ew3 : IntKind.i64.wrap ((k : Int) + 1) = (k : Int) + 1 := IntWalk.i64_in _ (by omega)
            have HLK := Lib.hid hget.1
            have HLE := Lib.hid hget.2.2.2
            obtain ⟨lo, hlo⟩ : ∃ lo, l1.length = lo := ⟨_, rfl⟩
            have HLO := Lib.hid hlo
            rw [hlo] at hn G11 hlb ⊢
            have hnlo : (n : Int) < (lo : Int) := by omega
            clear hlo hget
            go_upto_region 15 with (fail)
            have b1 : (wc.setCell ⟨g, n * 4 + 2, none⟩ (.int .i64 (zs + 1))).cell? ⟨g, n * 4 + 1, none⟩ = some (.int .i64 zc) := (World.cell?_setCell_other wc ⟨g, n * 4 + 2, none⟩ ⟨g, n * 4 + 1, none⟩ _ (by simp)).trans a1
            have b1f : (wc.setCell ⟨g, n * 4 + 2, none⟩ (.int .i64 (zs + 1))).frozen? ⟨g, n * 4 + 1, none⟩ = false := by rw [frozen_setCell]; exact f1
            have hg8 : g < (wc.setCell ⟨g, n * 4 + 2, none⟩ (.int .i64 (zs + 1))).heap.size := by simpa [World.setCell] using hg2
            clear a1 f1 a2 f2 hg2
            generalize wc.setCell ⟨g, n * 4 + 2, none⟩ (.int .i64 (zs + 1)) = w11 at *
            obtain ⟨e0, e1, e2⟩ := HCY.out _ _ _ _ G11.out (List.mem_cons_self ..)
            have HM11 := Lib.hid (G11.out.map (b := M1) (mk := Value.string) (m := lm) (by simp))
            go_upto_if 58 with (first
              | (at_lookup; refine wpList_lookup_plain _ rfl _ _ 76 false rfl 9 3 keyS2 Tryz.underlying76 (.int .i64 0) (zeroI _) M1 lm rfl HM11.out nm rfl ?_; simp only [Bool.false_eq_true, if_false]; rw [HLK.out])
              | fail)
            go_cut [] (fun wx => ∃ lm2, Hid (LmOk lm2 1 (l1.modify n (cueU k))) ∧ Hid (RxG w (l1.modify n (cueU k)) (.slice (some ⟨g, 0, none⟩) lo cap) ((Y, cellsP #[.int .i64 (a : Int), .int .i64 (b2 : Int), .string nm] 88) :: (KP ++ [(X, cellsP #[.string x.no, .int .i64 x.place, .string x.set, .int .i64 x.time, .slice A4 M cc4] 71), (M1, mapP Value.string lm2)])) wx))
            case first =>
              by_cases hzk : z = k
              · have hzq : ((z + 1) != ((k : Int) + 1)) = false := by rw [hzk]; simp
                have HLA := Lib.hid (HLE.out hzk)
                have HE := HEQ.out hzk
                rw [HE] at G11
                clear hzk HEQ HNE HE HLE
                go_wp2
                go_meet
                exact ⟨lm, HLA, G11⟩
              · have hzq : ((z + 1) != ((k : Int) + 1)) = true := bne_iff_ne.2 (by omega)
                have HE := Lib.hid (HNE.out hzk)
                clear hzk HEQ HNE HLE
                go_upto_region 17 with (first
                  | (at_mapUpdate; refine wpList_update_plain _ rfl _ _ _ 76 rfl 9 3 keyS2 Tryz.underlying76 M1 lm rfl HM11.out nm rfl (.int .i64 ((k : Int) + 1)) rfl ?_; intro w12 hm12 hg12; have G9 := Lib.hid ((G11.out.less (Q := (M1, mapP Value.string lm) :: (Y, cellsP #[.int .i64 (a : Int), .int .i64 (b2 : Int), .string nm] 88) :: (KP ++ [(X, cellsP #[.string x.no, .int .i64 x.place, .string x.set, .int .i64 x.time, .slice A4 M cc4] 71)])) (by intro p hp; simp only [List.mem_cons, List.mem_append, List.not_mem_nil, or_false] at hp ⊢; rcases hp with h | h | h | h <;> simp [h])).put (by intro p hp; simp only [List.mem_cons, List.mem_append, List.not_mem_nil, or_false] at hp; rcases hp with rfl | h | rfl; exact hYM; exact HKP.out p h; exact hXM) hm12 hg12); have a12 := (World.cell?_of_block (a := ⟨g, n * 4 + 1, none⟩) (hg12.block g hg8 (fun e => hgM (by injection e)))).trans b1; have f12 := (World.frozen?_of_block (a := ⟨g, n * 4 + 1, none⟩) (hg12.block g hg8 (fun e => hgM (by injection e)))).trans b1f; clear hm12 hg12)
                  | fail)
                have G10 := Lib.hid (BM.modify (enc := Rx.cells) (hn := fun _ => rfl) G9.out (fun r => { r with sc := zc + 1 }) n 1 (.int .i64 (zc + 1)) (fun _ => rfl) (by decide) (by rw [List.length_modify, HLO.out]; exact hn))
                rw [HE.out] at G10
                clear b1 b1f hg8 G9 HM11 e0 e1 e2
                go_wp2
                go_meet
                exact ⟨_, HCP, Lib.hid (G10.out.less (by intro p hp; simp only [List.mem_cons, List.mem_append, List.not_mem_nil, or_false] at hp ⊢; rcases hp with h | h | h | h <;> simp [h]))⟩
            case rest =>
              clear HEQ HNE HLE HLK HM11 e0 e1 e2 b1 b1f hg8 G11 HCP ew1 ew2
              obtain ⟨lm2, HLM2, HG⟩ := hcut
              have HQ := Lib.hid (show parN k out x.paras (a + 1) = ⟨l1.modify n (cueU k), n⟩ from HNS.out.trans HCE.out)
              have HKN := Lib.hid (fun q h1 h2 => parN_in (i := k) (out := out) (b := b2) HGO.out.le HGO.out.ins (show (parN k out x.paras (a + 1)).k = n by rw [HQ.out]) q h1 h2)
              have G12 := Lib.hid (show RxG w (parN k out x.paras (a + max 0 1)).out (.slice (some ⟨g, 0, none⟩) lo cap) ((Y, cellsP #[.int .i64 (a : Int), .int .i64 (b2 : Int), .string nm] 88) :: (KP ++ [(X, cellsP #[.string x.no, .int .i64 x.place, .string x.set, .int .i64 x.time, .slice A4 M cc4] 71), (M1, mapP Value.string lm2)])) wc by rw [show a + max 0 1 = a + 1 by simp, HQ.out]; exact HG.out)
              have HL12 := Lib.hid (show LmOk lm2 1 (parN k out x.paras (a + 1)).out by rw [HQ.out]; exact HLM2.out)
              have HLO2 := Lib.hid (show (l1.modify n (cueU k)).length = lo by rw [List.length_modify]; exact HLO.out)
              obtain ⟨e0, e1, e2⟩ := HCY.out _ _ _ _ G12.out (List.mem_cons_self ..)
              have s4 : wc.cell? ⟨X, 4, none⟩ = some (.slice A4 M cc4) := (G12.out.cell (b := X) (cs := #[.string x.no, .int .i64 x.place, .string x.set, .int .i64 x.time, .slice A4 M cc4]) (T := 71) (by simp)).1 4
              obtain ⟨b4, off4, rfl, hfb4, _, _⟩ := para_at (HPA.out.below G12.out.bel HH.out.lt) a hap
              clear HG HLM2 HLO
              have hcc : M ≤ cc4 := by have := HM.out; omega
              have hi1 : (a : Int) ≤ (b2 : Int) := by omega
              have hi2 : (b2 : Int) ≤ (cc4 : Int) := by omega
              have hi3 : ((b2 : Int) - (a : Int)).toNat = b2 - a := by omega
              go_upto_region 19 with (fail)
              go_wp2
              go_loopw [80] (fun i wr => ∃ q : Nat, q ≤ b2 - a ∧ i = .int .i64 q ∧ Hid (RxG w (parN k out x.paras (a + max q 1)).out (.slice (some ⟨g, 0, none⟩) lo cap) ((Y, cellsP #[.int .i64 (a : Int), .int .i64 (b2 : Int), .string nm] 88) :: (KP ++ [(X, cellsP #[.string x.no, .int .i64 x.place, .string x.set, .int .i64 x.time, .slice (some ⟨b4, off4, none⟩) M cc4] 71), (M1, mapP Value.string lm2)])) wr)) (fun i _ => (b2 - a) - (intOf i).toNat)
              case atStart => exact ⟨0, Nat.zero_le _, rfl, G12⟩
              case round =>
                clear G12 e0 e1 e2 s4
                obtain ⟨q, hq, rfl, HG⟩ := hrel
                by_cases hlq : q < b2 - a
                · have hj2 : a + q < x.paras.length := by rw [HM.out]; omega
                  have hqi : (q : Int) < ((b2 - a : Nat) : Int) := by omega
                  obtain ⟨bp, offp, hbp, hfb', p0, p1⟩ := para_at (HPA.out.below HG.out.bel HH.out.lt) (a + q) hj2
                  obtain ⟨rfl, rfl⟩ : bp = b4 ∧ offp = off4 := by injection hbp with h; injection h with h1 h2; exact ⟨h1.symm, h2.symm⟩
                  rw [show offp + (a + q) * 2 = offp + a * 2 + q * 2 by omega] at p0 p1
                  have htx := HBD.out _ (List.getElem_mem hj2)
                  have hnx := parN_next (i := k) (out := out) hj2
                  have hok := HOK.out (a + q)
                  have hbw' : bp < wr.heap.size := by have := HH.out.lt bp hfb'; have := HG.out.size; omega
                  have hkq : 0 < q → (x.paras[a + q]'hj2).kind = 3 ∨ (x.paras[a + q]'hj2).kind = 4 := fun h => HGO.out.ins (a + q) (by dsimp only; omega) (by dsimp only; omega) _ (by rw [List.getElem?_eq_getElem hj2]; rfl)
                  have hk0 : q = 0 → (x.paras[a + q]'hj2).kind = 2 := fun h => by subst h; have h1 := H2K.out; rw [← HPA2.out] at h1; exact h1
                  generalize x.paras[a + q]'hj2 = p at *
                  have HNX2 := Lib.hid hnx
                  have hXw := (HG.out.plt (b := X) (f := cellsP #[.string x.no, .int .i64 x.place, .string x.set, .int .i64 x.time, .slice (some ⟨bp, offp, none⟩) M cc4] 71) (by simp)).2
                  have G4 := Lib.hid (HG.out.new #[.int .i64 p.kind, .string p.text] 78)
                  clear hj2 hnx HG hbp
                  go_upto_region 21 with (fail)
                  generalize hW : wr.alloc (.cells #[.int .i64 p.kind, .string p.text] 78) = w9 at *
                  have hY9 := (G4.out.plt (b := wr.heap.size) (List.mem_cons_self ..)).2
                  obtain ⟨gx, _⟩ := G4.out.cell (b := wr.heap.size) (cs := #[.int .i64 p.kind, .string p.text]) (T := 78) (by simp)
                  have d0 : w9.cell? ⟨wr.heap.size, 0, none⟩ = some (.int .i64 p.kind) := gx 0
                  have d1 : w9.cell? ⟨wr.heap.size, 1, none⟩ = some (.string p.text) := gx 1
                  generalize wr.heap.size = Z at *
                  clear hW p0 p1 gx
                  by_cases h4 : p.kind = 4
                  · have h0 : 0 < q := Nat.pos_of_ne_zero fun e => by have := hk0 e; omega
                    rw [show max q 1 = q by omega] at G4
                    have hkn := HKN.out (a + q) (by omega) (by omega)
                    have HN := Lib.hid (show parN k out x.paras (a + max (q + 1) 1) = (⟨(parN k out x.paras (a + q)).out.modify n (wdU p.text), n⟩ : Cst) by
                      rw [show a + max (q + 1) 1 = a + q + 1 by omega, HNX2.out]
                      unfold parS
                      rw [if_neg (by omega), if_pos h4]
                      unfold spS
                      rw [hkn])
                    have e4 : (p.kind == 4) = true := beq_iff_eq.2 h4
                    generalize parN k out x.paras (a + q) = st2 at *
                    obtain ⟨_, _, hle, _⟩ := (G4.out.own.sliF (F := fun _ => True) (enc := Rx.cells) (hn := fun _ => rfl) (fun _ _ => trivial)).form
                    have hlo : lo = st2.out.length := by injection hle
                    clear hle
                    have hkl : n < st2.out.length := by omega
                    have hca := Own.cellAt (enc := Rx.cells) (hn := fun _ => rfl) G4.out.own n hkl 3 (by decide)
                    have hbd := hok.bd _ (List.getElem_mem hkl)
                    have hwl := wordsT_len p.text
                    have HMD := Lib.hid (show st2.out.modify n (fun r => { r with wd := st2.out[n].wd + (wordsT p.text).length }) = st2.out.modify n (wdU p.text) from modAt hkl rfl)
                    have hz3 : w9.cell? ⟨g, n * 4 + 3, none⟩ = some (.int .i64 (st2.out[n]'hkl).wd) := hca.1
                    have hf3 := hca.2
                    generalize (st2.out[n]'hkl).wd = z at *
                    clear hca
                    have HFZ := Lib.hid hf3
                    obtain ⟨y, hy⟩ : ∃ y, (wordsT p.text).length = y := ⟨_, rfl⟩
                    have HY := Lib.hid hy
                    rw [hy] at hwl HMD
                    have ew : IntKind.i64.wrap (z + y) = z + y := IntWalk.i64_in _ (by omega)
                    have hg29 : g < w9.heap.size := (G4.out.own.block g rfl).2
                    have hnl : (n : Int) < (lo : Int) := by omega
                    obtain ⟨ι, ff, hne, hff, hfS⟩ := family (fun W => W.cell? ⟨g, n * 4 + 3, none⟩ = some (.int .i64 z) ∧ W.cell? ⟨Z, 1, none⟩ = some (.string p.text)) w9 ⟨hz3, d1⟩
                    have q0 := fun p => (hff p).1
                    have q1 := fun p => (hff p).2
                    have HFS := Lib.hid hfS
                    have HZ := Lib.hid (And.intro hz3 d1)
                    have HWD := Lib.hid (WordsOf_c p.text w9.drew (by omega))
                    have HKL := Lib.hid hkl
                    clear h4 hff hfS hbd hy hz3 hf3 hok hkq hk0 hkn hkl hlo
                    go_upto_region 22 with (fail)
                    clear d0
                    refine wp_region_segs3 [7, 8] [] [] [([0, 1, 2, 3, 5], [4, 6], 7), ([], [], 8), ([9, 10, 11], [], 12)] (by kernel_rfl) (by kernel_rfl) (fun _ _ _ dd _ h => by cases dd <;> exact h) (fun W => ∃ p : ι, W = ff p) (HFS.out _ HZ.out) ?_
                    refine wpSegs3_step (by simp only [pick, List.getElem?_cons_succ, List.getElem?_cons_zero]; rfl) (by simp only [pick, List.getElem?_cons_succ, List.getElem?_cons_zero]; rfl) rfl (fun K0 hK0 L0 hL0 => ?_)
                    repeat (first | go_big_quiet_step (fail) | quiet_step (fail))
                    refine wpQuiet_nil (hL0 _ ?_)
                    repeat (first | go_big_quiet_step (fail) | quiet_step (fail))
                    refine wpQuiet_nil ?_
                    refine Or.inl ⟨by kernel_rfl, ?_⟩
                    go_simp
                    refine HWD.out.mono ?_
                    rintro e w10 ⟨vw, rfl, hown10, hb10⟩
                    have G5 := Lib.hid (G4.out.drew.below hb10)
                    have hsl := hown10.sliF (F := fun _ => True) (enc := fun x : ByteArray => [.string x]) (hn := fun _ => rfl) (fun _ _ => trivial)
                    obtain ⟨Aw, cw, rfl, _, _⟩ := hsl.form
                    rw [HY.out]
                    have hz10 : w10.cell? ⟨g, n * 4 + 3, none⟩ = some (.int .i64 z) := (hb10.cell (p := ⟨g, n * 4 + 3, none⟩) hg29).trans HZ.out.1
                    have hd10 : w10.cell? ⟨Z, 1, none⟩ = some (.string p.text) := (hb10.cell (p := ⟨Z, 1, none⟩) hY9).trans HZ.out.2
                    have hf10 : w10.frozen? ⟨g, n * 4 + 3, none⟩ = false := (hb10.frozen (p := ⟨g, n * 4 + 3, none⟩) hg29).trans HFZ.out
                    have HS10 := Lib.hid (HFS.out _ ⟨hz10, hd10⟩)
                    have G6 := Lib.hid (BM.modify (enc := Rx.cells) (hn := fun _ => rfl) G5.out (fun r => { r with wd := z + y }) n 3 (.int .i64 (z + y)) (fun x => rfl) (by decide) HKL.out)
                    clear hsl hown10 hb10 hd10 G5 HWD
                    refine hK0 (fun W => ∃ p : ι, W = ff p) _ _ (fun _ h => h) HS10.out ?_
                    refine wpSegs3_step (by simp only [pick, List.getElem?_cons_succ, List.getElem?_cons_zero]; rfl) (by simp only [pick, List.getElem?_cons_succ, List.getElem?_cons_zero]; rfl) rfl (fun K1 hK1 L1 hL1 => ?_)
                    repeat (first | go_big_quiet_step (fail) | quiet_step (fail))
                    refine wpQuiet_nil (hL1 _ ?_)
                    repeat (first | go_big_quiet_step (fail) | quiet_step (fail))
                    refine wpQuiet_nil ?_
                    refine Or.inl ⟨by kernel_rfl, ?_⟩
                    go_simp
                    refine hK1 (fun W => ∃ p : ι, W = ff p) _ _ (fun _ h => h) HS10.out ?_
                    refine wpSegs3_last (by simp only [pick, List.getElem?_cons_succ, List.getElem?_cons_zero]; rfl) (by simp only [pick, List.getElem?_cons_succ, List.getElem?_cons_zero]; rfl) rfl (by rfl) (fun K2 hK2 L2 hL2 => ?_)
                    repeat (first | go_big_quiet_step (fail) | quiet_step (fail))
                    refine wpQuiet_nil (hL2 _ ?_)
                    repeat (first | go_big_quiet_step (fail) | quiet_step (fail))
                    refine wpQuiet_nil ?_
                    refine Or.inl ⟨by kernel_rfl, ?_⟩
                    go_simp
                    refine hK2 _ _ (wpSegs3_end ?_)
                    clear q0 q1
                    go_wp2
                    go_roundw
                    case rel => exact ⟨q + 1, by omega, intNum, by rw [HN.out, ← HMD.out]; exact Lib.hid (G6.out.less (fun p hp => List.mem_cons_of_mem _ hp))⟩
                    case measure => simp [intOf]; omega
                  · have e4 : (p.kind == 4) = false := beq_eq_false_iff_ne.2 h4
                    have HN := Lib.hid (show parN k out x.paras (a + max (q + 1) 1) = parN k out x.paras (a + max q 1) by
                      rcases Nat.eq_zero_or_pos q with e | e
                      · subst e; rfl
                      · have h3 : p.kind = 3 := (hkq e).resolve_right h4
                        rw [show a + max (q + 1) 1 = a + q + 1 by omega, show a + max q 1 = a + q by omega, HNX2.out]
                        unfold parS
                        rw [if_neg (by omega), if_neg h4])
                    clear h4 hkq hk0
                    go_wp2
                    go_roundw
                    case rel => exact ⟨q + 1, by omega, intNum, by rw [HN.out]; exact Lib.hid (G4.out.less (fun p hp => List.mem_cons_of_mem _ hp))⟩
                    case measure => simp [intOf]; omega
                · have hqi : ¬ (q : Int) < ((b2 - a : Nat) : Int) := by omega
                  have HE := Lib.hid (show parN k out x.paras (frm gs M (j + 1)) = parN k out x.paras (a + max q 1) by rw [← HGN.out, show a + max q 1 = b2 by omega])
                  have HLE := Lib.hid (show LmOk lm2 1 (parN k out x.paras (a + max q 1)).out from LmOk.stay (a := a) (b := b2) HGO.out.le HGO.out.ins HL12.out _ (by omega) (by omega))
                  go_wp2
                  go_roundw
                  case rel => exact ⟨j + 1, lm2, by omega, intNum, by rw [HE.out]; exact HLE, by rw [HE.out]; exact Lib.hid (HG.out.less (fun p hp => List.mem_cons_of_mem _ hp))⟩
                  case measure => simp [intOf]; omega
        · have HE := Lib.hid (show castN (ls.map (·.1)) (k + 1) = (parN k out x.paras (frm gs M j)).out by
            rw [HNX.out, show frm gs M j = M by unfold frm; rw [List.getElem?_eq_none (by rw [HK.out]; omega)]; rfl])
          go_wp2
          go_roundw
          case rel => exact ⟨k + 1, lm, by omega, intNum, by rw [HE.out]; exact HLM, by rw [HE.out]; exact Lib.hid (HG.out.less (by simp))⟩
          case measure => simp [intOf]; omega
    · have HE := Lib.hid (show castS (ls.map (·.1)) = castN (ls.map (·.1)) k by unfold castS; rw [List.length_map, HL.out, show L = k by omega])
      go_wp2
      go_ret
      exact ⟨_, rfl, HG.out.bel, by rw [HE.out]; exact HG.out.own⟩
end Go.Proofs.YtkhegeobdcemkaaGreatDoor

